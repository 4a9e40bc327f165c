/- Contract of opcode.Read. -/
import Derived.Test.YtnpgiallgcliiaaO5
import Derived.Laws.EntriesVeiled
namespace Go.Proofs.Ytnpgiallgcliiaa
open Go.ChangeShapes Go.WideShapes Go.ChangeAt Go.RowKit
set_option linter.unusedVariables false

theorem nextV_in {l : List Int} {k : Int} {j : Nat} (h : Oc.nn k (j + 1) ≤ l.length) : nextV l k j = Oc.vv l k j := by
  have e : Oc.nn k (j + 1) = if ask4 k j = true then Oc.nn k j + 1 else Oc.nn k j := rfl
  unfold nextV Oc.vv
  rw [e] at h
  by_cases hx : ask4 k j = true
  · rw [if_pos hx] at h
    rw [if_pos hx, if_pos hx, if_pos (by omega)]
  · rw [if_neg hx, if_neg hx]

theorem heap3_mid (w : World) (a b c : Obj) : (((w.alloc a).alloc b).alloc c).heap[w.heap.size + 1]? = some b := by rw [heap_alloc_old (h := by simp)]; exact (heap_alloc2_new w a b)
theorem oread_nil (A : Option Addr) (c : Nat) (w : World) :
    Calls Try.prog 16 #[.slice A 0 c] w (RdP w (Oc.rd [])) := by
  have hk := (((KW.refl w).alloc (.cells #[.slice A 0 c] 25)).alloc (.cells #[.int .i64 0, .int .i64 0, .int .i64 0, .int .i64 0, .int .u64 0] 24)).alloc (.cells #[.int .i64 0] 3)
  go_enter Try.func16, Try.ntmps16
  go_wp2_with fail
  exact bodyPost_ret (results_cell2_tmp rfl _ _ _ _ _ (0, 0) _ _ (.int .i64 0) _ rfl (heap3_mid w _ _ _) Try.underlying24 rfl (by kernel_rfl) rfl (by go_simp) Try.underlying3 rfl) rfl ⟨rfl, hk⟩

set_option maxRecDepth 100000 in
set_option maxHeartbeats 2000000 in
theorem oread_in (A : Option Addr) (c : Nat) (l : List Int) (w : World) (hr : Row1 w A l.length fun i => .int .u64 (l.getD i 0)) (hl0 : 0 < l.length) (hl : l.length ≤ 1099511627776) (hb : ∀ x ∈ l, 0 ≤ x ∧ x ≤ 18446744073709551615) (h8 : l.getD 0 0 < 8) :
    Calls Try.prog 16 #[.slice A l.length c] w (RdP w (Oc.rd l)) := by
  have hk0 : 0 ≤ l.getD 0 0 := by
    rw [List.getD_eq_getElem?_getD, List.getElem?_eq_getElem hl0]
    exact (hb _ (List.getElem_mem hl0)).1
  obtain ⟨bA, oA, rfl, hbA, hcA⟩ := hr.at_ hl0
  have HO := hid (fun W => of_any (l.getD 0 0) W)
  have HX : Hid (∀ i, i < 4 → (akv (l.getD 0 0))[i]? = some (.bool (ask4 (l.getD 0 0) i))) := by
    intro i hi
    rcases (show i = 0 ∨ i = 1 ∨ i = 2 ∨ i = 3 by omega) with rfl | rfl | rfl | rfl <;> rfl
  have HNx := hid (fun nb wb sb (j : Nat) (hj : j ≤ 4) W (h : Cl W nb wb sb (Oc.nn (l.getD 0 0) j) (decide (l.length < Oc.nn (l.getD 0 0) j)) (some ⟨bA, oA, none⟩) c l) => next_any nb wb sb (l.getD 0 0) j (some ⟨bA, oA, none⟩) c l W hj hl h)
  have HAt := hid (fun nb wb sb fb (j : Nat) (hj : j ≤ 4) W (h : Cl W nb wb sb (Oc.nn (l.getD 0 0) j) (decide (l.length < Oc.nn (l.getD 0 0) j)) (some ⟨bA, oA, none⟩) c l) hf => at07_any nb wb sb fb (l.getD 0 0) j (some ⟨bA, oA, none⟩) c l W hj hl h hf hb)
  have HRd := hid (show Oc.rd l = if l.length < Oc.nn (l.getD 0 0) 4 then ⟨0, 0, 0, 0, 0, 0, 4⟩ else ⟨l.getD 0 0, Oc.cap (Oc.vv l (l.getD 0 0) 0), Oc.cap (Oc.vv l (l.getD 0 0) 1), Oc.cap (Oc.vv l (l.getD 0 0) 2), Oc.vv l (l.getD 0 0) 3, Oc.nn (l.getD 0 0) 4, 0⟩ from by
    unfold Oc.rd
    rw [if_neg (by omega), if_neg (by omega)])
  have HVV := hid (fun j (h : Oc.nn (l.getD 0 0) (j + 1) ≤ l.length) => nextV_in (l := l) (k := l.getD 0 0) (j := j) h)
  have HMo := hid (fun i j (h : i ≤ j) => Oc.nn_mono (l.getD 0 0) h)
  have Hn1 := hid (show Oc.nn (l.getD 0 0) 0 = 1 from rfl)
  have E0 := hid (show Oc.aD (l.getD 0 0) = ask4 (l.getD 0 0) 0 from rfl)
  have E1 := hid (show Oc.aA (l.getD 0 0) = ask4 (l.getD 0 0) 1 from rfl)
  have E2 := hid (show Oc.aB (l.getD 0 0) = ask4 (l.getD 0 0) 2 from rfl)
  have E3 := hid (show Oc.aV (l.getD 0 0) = ask4 (l.getD 0 0) 3 from rfl)
  unfold akv at HO HX
  rw [E0.out, E1.out, E2.out, E3.out] at HO HX
  clear E0 E1 E2 E3
  have HR := hid hr
  have HBd := hid hb
  generalize nextV l (l.getD 0 0) = nv at *
  generalize Oc.vv l (l.getD 0 0) = vv at *
  generalize Oc.nn (l.getD 0 0) = nn at *
  generalize ask4 (l.getD 0 0) = ask at *
  generalize hL0 : l.getD 0 0 = k at *
  have HL0 := hid hL0
  clear hL0
  generalize hN : l.length = N at *
  have HL := hid hN
  clear hN hb hr
  have dk : decide (8 ≤ k) = false := decide_eq_false (by omega)
  have dN : ((N : Int) == 0) = false := by simp; omega
  have dN2 : (N == 0) = false := by simp; omega
  have hc0 := hcA
  simp only [Nat.add_zero] at hc0
  have hk := (((KW.refl w).alloc (.cells #[.slice (some ⟨bA, oA, none⟩) N c] 25)).alloc (.cells #[.int .i64 0, .int .i64 0, .int .i64 0, .int .i64 0, .int .u64 0] 24)).alloc (.cells #[.int .i64 0] 3)
  have q0 : (((w.alloc (.cells #[.slice (some ⟨bA, oA, none⟩) N c] 25)).alloc (.cells #[.int .i64 0, .int .i64 0, .int .i64 0, .int .i64 0, .int .u64 0] 24)).alloc (.cells #[.int .i64 0] 3)).cell? ⟨w.heap.size, 0, none⟩ = some (.slice (some ⟨bA, oA, none⟩) N c) := by go_simp
  have q1 : (((w.alloc (.cells #[.slice (some ⟨bA, oA, none⟩) N c] 25)).alloc (.cells #[.int .i64 0, .int .i64 0, .int .i64 0, .int .i64 0, .int .u64 0] 24)).alloc (.cells #[.int .i64 0] 3)).cell? ⟨bA, oA, none⟩ = some (.int .u64 k) := KW.cell hk hbA hc0
  have HB1 : Hid ((((w.alloc (.cells #[.slice (some ⟨bA, oA, none⟩) N c] 25)).alloc (.cells #[.int .i64 0, .int .i64 0, .int .i64 0, .int .i64 0, .int .u64 0] 24)).alloc (.cells #[.int .i64 0] 3)).rowIs (w.heap.size + 1) 24 5 (fun i => [.int .i64 0, .int .i64 0, .int .i64 0, .int .i64 0, .int .u64 0].getD i undef)) := by
    have h := (World.rowIs_alloc (w.alloc (.cells #[.slice (some ⟨bA, oA, none⟩) N c] 25)) #[.int .i64 0, .int .i64 0, .int .i64 0, .int .i64 0, .int .u64 0] 24 (fun i => [.int .i64 0, .int .i64 0, .int .i64 0, .int .i64 0, .int .u64 0].getD i undef) fun i hi => by simp at hi; simp [hi]).alloc (.cells #[.int .i64 0] 3)
    exact hid (by simpa using h)
  have HB2 : Hid ((((w.alloc (.cells #[.slice (some ⟨bA, oA, none⟩) N c] 25)).alloc (.cells #[.int .i64 0, .int .i64 0, .int .i64 0, .int .i64 0, .int .u64 0] 24)).alloc (.cells #[.int .i64 0] 3)).rowIs (w.heap.size + 2) 3 1 (fun _ => .int .i64 0)) := by
    have h := World.rowIs_alloc ((w.alloc (.cells #[.slice (some ⟨bA, oA, none⟩) N c] 25)).alloc (.cells #[.int .i64 0, .int .i64 0, .int .i64 0, .int .i64 0, .int .u64 0] 24)) #[.int .i64 0] 3 (fun _ => .int .i64 0) fun i hi => by
      obtain rfl : i = 0 := by simp at hi; omega
      rfl
    exact hid (by simpa using h)
  have p0 : w.heap.size < (((w.alloc (.cells #[.slice (some ⟨bA, oA, none⟩) N c] 25)).alloc (.cells #[.int .i64 0, .int .i64 0, .int .i64 0, .int .i64 0, .int .u64 0] 24)).alloc (.cells #[.int .i64 0] 3)).heap.size := by simp; omega
  go_enter Try.func16, Try.ntmps16
  go_wp2_with fail
  refine (HO.out _).mono ?_
  rintro e w1 ⟨rfl, hb⟩
  have z0 := KW.cell hb (p0) (show _ = some (.slice (some ⟨bA, oA, none⟩) N c) from q0)
  have z1 := KW.row hb (by simp) HB1.out
  have z2 := KW.row hb (by simp) HB2.out
  have HA1 := hid (KW.cell hb (by simp; omega) (show _ = some (.int .u64 k) from q1))
  have HK1 := hid (hk.t hb)
  have HR1 := hid (HR.out.k HK1.out)
  have HG := hid (show w.heap.size + 2 < w1.heap.size from Nat.lt_of_lt_of_le (by simp) hb.size)
  have c2 := z2.cell (i := 0) (by omega)
  have f2 := z2.frozen 0
  have hgx := HG.out
  clear hb HB1 HB2 q0 q1 p0 hk
  have H0 := hid z0
  have H1 := hid z1
  have H2 := hid z2
  have hsz : (w1.setCell ⟨w.heap.size + 1 + 1, 0, none⟩ (.int .i64 1)).heap.size = w1.heap.size := by simp
  have hsz1 : ((w1.setCell ⟨w.heap.size + 1 + 1, 0, none⟩ (.int .i64 1)).alloc (.cells #[.bool (ask 0), .bool (ask 1), .bool (ask 2), .bool (ask 3)] 70)).heap.size = w1.heap.size + 1 := by simp
  go_wp2_with fail
  refine wpCode_world (fun W => KW w W ∧ W.cell? ⟨w.heap.size, 0, none⟩ = some (.slice (some ⟨bA, oA, none⟩) N c) ∧ W.cell? ⟨bA, oA, none⟩ = some (.int .u64 k) ∧ W.rowIs (w.heap.size + 1) 24 5 (fun i => [.int .i64 0, .int .i64 0, .int .i64 0, .int .i64 0, .int .u64 0].getD i undef) ∧ W.rowIs (w.heap.size + 2) 3 1 (fun _ => .int .i64 1) ∧
    W.rowIs w1.heap.size 70 4 (fun i => .bool (ask i)) ∧ W.rowIs (w1.heap.size + 1) 4 1 (fun _ => .bool false) ∧ W.cell? ⟨w1.heap.size + 2, 0, none⟩ = some (nextF (w.heap.size + 2) w.heap.size (w1.heap.size + 1))) ⟨?_, ?_, ?_, ?_, ?_, ?_, ?_, ?_⟩ ?_
  · exact KW.alloc (KW.alloc (KW.alloc (show KW w _ from Below.setCell (p := ⟨w.heap.size + 1 + 1, 0, none⟩) HK1.out (by show w.heap.size ≤ w.heap.size + 1 + 1; omega) _) _) _) _
  · have h : (w1.setCell ⟨w.heap.size + 1 + 1, 0, none⟩ (.int .i64 1)).cell? ⟨w.heap.size, 0, none⟩ = some (.slice (some ⟨bA, oA, none⟩) N c) := by go_simp
    exact KW.cell ((((KW.refl _).alloc _).alloc _).alloc _) (by simp; omega) h
  · have h : (w1.setCell ⟨w.heap.size + 1 + 1, 0, none⟩ (.int .i64 1)).cell? ⟨bA, oA, none⟩ = some (.int .u64 k) := by
      exact (World.cell?_of_block (w := w1) (heap_setCell_other w1 ⟨w.heap.size + 1 + 1, 0, none⟩ bA _ (by show bA ≠ w.heap.size + 1 + 1; omega))).trans HA1.out
    exact KW.cell ((((KW.refl _).alloc _).alloc _).alloc _) (by simp; omega) h
  · exact KW.row ((((KW.refl _).alloc _).alloc _).alloc _) (by simp; omega) (H1.out.setOther (by show w.heap.size + 1 ≠ w.heap.size + 1 + 1; omega) _)
  · have h : (w1.setCell ⟨w.heap.size + 1 + 1, 0, none⟩ (.int .i64 1)).rowIs (w.heap.size + 2) 3 1 (fun _ => .int .i64 1) := (H2.out.set 0 _).congr fun i hi => by (obtain rfl : i = 0 := by omega); rfl
    exact KW.row ((((KW.refl _).alloc _).alloc _).alloc _) (by simp; omega) h
  · have h := World.rowIs_alloc (w1.setCell ⟨w.heap.size + 1 + 1, 0, none⟩ (.int .i64 1)) #[.bool (ask 0), .bool (ask 1), .bool (ask 2), .bool (ask 3)] 70 (fun i => .bool (ask i)) HX.out
    rw [hsz] at h
    exact KW.row (((KW.refl _).alloc _).alloc _) (by simp) h
  · have h := World.rowIs_alloc ((w1.setCell ⟨w.heap.size + 1 + 1, 0, none⟩ (.int .i64 1)).alloc (.cells #[.bool (ask 0), .bool (ask 1), .bool (ask 2), .bool (ask 3)] 70)) #[.bool false] 4 (fun _ => .bool false) fun i hi => by (obtain rfl : i = 0 := by simp at hi; omega); rfl
    rw [hsz1] at h
    exact KW.row ((KW.refl _).alloc _) (by simp) h
  · go_simp
    rfl
  rintro W2 ⟨hk, q0, q1, h1, h2, hx, hs, hf⟩
  clear z0 z1 z2 H0 H1 H2 HA1 HK1 HR1 c2 f2 hsz hsz1 hc0 hcA
  generalize hg : w1.heap.size = g at *
  have HK2 := hid hk
  have HOp := hid h1
  have HSb := hid hs
  have HNE := hid (show w.heap.size + 1 + 1 < g from hgx)
  have HBA := hid hbA
  have HCl : Hid (Cl W2 (w.heap.size + 1 + 1) w.heap.size (g + 1) (nn 0) (decide (N < nn 0)) (some ⟨bA, oA, none⟩) c l) := by
    rw [Hn1.out]
    refine hid ⟨h2, ?_, ?_, ?_, ⟨by omega, by omega, by omega⟩, fun b off hA => by cases hA; exact ⟨by omega, by omega⟩⟩
    · rw [decide_eq_false (show ¬ N < 1 by omega)]; exact hs
    · rw [HL.out]; exact q0
    · rw [HL.out]; exact HR.out.k hk
  have HSS := hid (fun w' (hk : Keep (fun i => i = w.heap.size + 1 + 1 ∨ i = g + 1) W2 w') => And.intro ((hk.cell (b := w.heap.size) (World.block_lt_of_cell? W2 _ q0) (by omega)).trans q0) (And.intro ((hk.cell (b := bA) (World.block_lt_of_cell? W2 _ q1) (by omega)).trans q1)
    (And.intro ((hk.cell hx.lt (by omega)).trans (hx.cell (i := 0) (by omega))) (And.intro ((hk.cell hx.lt (by omega)).trans (hx.cell (i := 1) (by omega))) (And.intro ((hk.cell hx.lt (by omega)).trans (hx.cell (i := 2) (by omega))) (And.intro ((hk.cell hx.lt (by omega)).trans (hx.cell (i := 3) (by omega))) ((hk.cell (b := g + 1 + 1) (World.block_lt_of_cell? W2 _ hf) (by omega)).trans hf)))))))
  clear hk q0 q1 h1 h2 hx hs hf hg hgx HG hbA
  have hXS := HSS.out W2.drew (Keep.refl _ W2).drew
  refine wpX_region (S := fun w' => w'.cell? ⟨w.heap.size, 0, none⟩ = some (.slice (some ⟨bA, oA, none⟩) N c) ∧ w'.cell? ⟨bA, oA, none⟩ = some (.int .u64 k) ∧ w'.cell? ⟨g, 0, none⟩ = some (.bool (ask 0)) ∧ w'.cell? ⟨g, 1, none⟩ = some (.bool (ask 1)) ∧ w'.cell? ⟨g, 2, none⟩ = some (.bool (ask 2)) ∧ w'.cell? ⟨g, 3, none⟩ = some (.bool (ask 3)) ∧ w'.cell? ⟨g + 1 + 1, 0, none⟩ = some (.func (.func 51) #[] #[.pointer (some ⟨w.heap.size + 1 + 1, 0, none⟩), .pointer (some ⟨w.heap.size, 0, none⟩), .pointer (some ⟨g + 1, 0, none⟩)])) (L := 21) (by kernel_rfl) ?_
  refine wpX_take (i := 0) (v := ?_) rfl rfl (by kernel_rfl) (fun _ _ _ h => h) (Or.inl ⟨rfl, fun wS hwS => ?_⟩) hXS ?_
  rotate_left
  · go_simp; try rfl
  simp only [List.set_cons_zero, List.set_cons_succ]
  refine wpX_take (i := 1) (v := ?_) rfl rfl (by kernel_rfl) (fun _ _ _ h => h) (Or.inl ⟨rfl, fun wS hwS => ?_⟩) hXS ?_
  rotate_left
  · go_simp; try rfl
  simp only [List.set_cons_zero, List.set_cons_succ]
  refine wpX_take (i := 2) (v := ?_) rfl rfl (by kernel_rfl) (fun _ _ _ h => h) (Or.inl ⟨rfl, fun wS hwS => ?_⟩) hXS ?_
  rotate_left
  · go_simp; try rfl
  simp only [List.set_cons_zero, List.set_cons_succ]
  refine wpX_take (i := 3) (v := ?_) rfl rfl (by kernel_rfl) (fun _ _ _ h => h) (Or.inl ⟨rfl, fun wS hwS => ?_⟩) hXS ?_
  rotate_left
  · go_simp; try rfl
  simp only [List.set_cons_zero, List.set_cons_succ]
  refine wpX_take (i := 4) (v := ?_) rfl rfl (by kernel_rfl) (fun _ _ _ h => h) (Or.inl ⟨rfl, fun wS hwS => ?_⟩) hXS ?_
  rotate_left
  · go_simp; try rfl
  simp only [List.set_cons_zero, List.set_cons_succ]
  refine wpX_take (i := 5) (v := ?_) rfl rfl (by kernel_rfl) (fun _ _ _ h => h) (Or.inl ⟨rfl, fun wS hwS => ?_⟩) hXS ?_
  rotate_left
  · go_simp; try rfl
  simp only [List.set_cons_zero, List.set_cons_succ]
  refine wpX_take (i := 6) (v := ?_) rfl rfl (by kernel_rfl) (fun _ _ _ h => h) (Or.inl ⟨rfl, fun wS hwS => ?_⟩) hXS ?_
  rotate_left
  · go_simp; try rfl
  simp only [List.set_cons_zero, List.set_cons_succ]
  refine wpX_take (i := 8) (v := ?_) rfl rfl (by kernel_rfl) (fun _ _ _ h => h) (Or.inl ⟨rfl, fun wS hwS => ?_⟩) hXS ?_
  rotate_left
  · go_simp; try rfl
  simp only [List.set_cons_zero, List.set_cons_succ]
  refine wpX_take (i := 9) (v := ?_) rfl rfl (by kernel_rfl) (fun _ _ _ h => h) (Or.inl ⟨rfl, fun wS hwS => ?_⟩) hXS ?_
  rotate_left
  · go_simp; try rfl
  simp only [List.set_cons_zero, List.set_cons_succ]
  refine wpX_take (i := 10) (v := ?_) rfl rfl (by kernel_rfl) (fun _ _ _ h => h) (Or.inl ⟨rfl, fun wS hwS => ?_⟩) hXS ?_
  rotate_left
  · go_simp; try rfl
  simp only [List.set_cons_zero, List.set_cons_succ]
  refine wpX_take (i := 12) (v := ?_) rfl rfl (by kernel_rfl) (fun _ _ _ h => h) (Or.inl ⟨rfl, fun wS hwS => ?_⟩) hXS ?_
  rotate_left
  · go_simp; try rfl
  simp only [List.set_cons_zero, List.set_cons_succ]
  refine wpX_take (i := 13) (v := ?_) rfl rfl (by kernel_rfl) (fun _ _ _ h => h) (Or.inl ⟨rfl, fun wS hwS => ?_⟩) hXS ?_
  rotate_left
  · go_simp; try rfl
  simp only [List.set_cons_zero, List.set_cons_succ]
  refine wpX_take (i := 14) (v := ?_) rfl rfl (by kernel_rfl) (fun _ _ _ h => h) (Or.inl ⟨rfl, fun wS hwS => ?_⟩) hXS ?_
  rotate_left
  · go_simp; try rfl
  simp only [List.set_cons_zero, List.set_cons_succ]
  refine wpX_take (i := 16) (v := ?_) rfl rfl (by kernel_rfl) (fun _ _ _ h => h) (Or.inl ⟨rfl, fun wS hwS => ?_⟩) hXS ?_
  rotate_left
  · go_simp; try rfl
  simp only [List.set_cons_zero, List.set_cons_succ]
  refine wpX_take (i := 17) (v := ?_) rfl rfl (by kernel_rfl) (fun _ _ _ h => h) (Or.inl ⟨rfl, fun wS hwS => ?_⟩) hXS ?_
  rotate_left
  · go_simp; try rfl
  simp only [List.set_cons_zero, List.set_cons_succ]
  refine wpX_take (i := 18) (v := ?_) rfl rfl (by kernel_rfl) (fun _ _ _ h => h) (Or.inl ⟨rfl, fun wS hwS => ?_⟩) hXS ?_
  rotate_left
  · go_simp; try rfl
  simp only [List.set_cons_zero, List.set_cons_succ]
  have hwk : IntKind.i64.wrap k = k := IntWalk.i64_in _ (by omega)
  simp only [hwk]
  clear hXS hwk
  have HClD : Hid (Cl W2.drew (w.heap.size + 1 + 1) w.heap.size (g + 1) (nn 0) (decide (N < nn 0)) (some ⟨bA, oA, none⟩) c l) := hid ⟨HCl.out.hn, HCl.out.hs, HCl.out.hw, HCl.out.hr, HCl.out.hd, HCl.out.ha⟩
  refine wpX_hard (k := 7) (by kernel_rfl) rfl (fun K hK => ?_)
  go_simp
  refine (HAt.out (w.heap.size + 1 + 1) w.heap.size (g + 1) (g + 1 + 1) 0 (by omega) _ HClD.out ((HSS.out _ (Keep.refl _ W2).drew).2.2.2.2.2.2)).mono ?_
  rintro e V0 ⟨rfl, hn0, hs0, hk0⟩
  have HC0 := hid (HClD.out.next hn0 hs0 hk0)
  have HK0 := hid (((Keep.refl _ W2).drew).t hk0)
  refine hK _ _ (fun _ => HSS.out _ HK0.out) ?_
  clear hK K hn0 hs0 hk0
  try simp only [List.set_cons_zero, List.set_cons_succ]
  refine wpX_hard (k := 11) (by kernel_rfl) rfl (fun K hK => ?_)
  go_simp
  refine (HAt.out (w.heap.size + 1 + 1) w.heap.size (g + 1) (g + 1 + 1) 1 (by omega) _ HC0.out ((HSS.out _ HK0.out).2.2.2.2.2.2)).mono ?_
  rintro e V1 ⟨rfl, hn1, hs1, hk1⟩
  have HC1 := hid (HC0.out.next hn1 hs1 hk1)
  have HK1 := hid ((HK0.out).t hk1)
  refine hK _ _ (fun _ => HSS.out _ HK1.out) ?_
  clear hK K hn1 hs1 hk1
  try simp only [List.set_cons_zero, List.set_cons_succ]
  refine wpX_hard (k := 15) (by kernel_rfl) rfl (fun K hK => ?_)
  go_simp
  refine (HAt.out (w.heap.size + 1 + 1) w.heap.size (g + 1) (g + 1 + 1) 2 (by omega) _ HC1.out ((HSS.out _ HK1.out).2.2.2.2.2.2)).mono ?_
  rintro e V2 ⟨rfl, hn2, hs2, hk2⟩
  have HC2 := hid (HC1.out.next hn2 hs2 hk2)
  have HK2' := hid ((HK1.out).t hk2)
  refine hK _ _ (fun _ => HSS.out _ HK2'.out) ?_
  clear hK K hn2 hs2 hk2
  try simp only [List.set_cons_zero, List.set_cons_succ]
  refine wpX_hard (k := 19) (by kernel_rfl) rfl (fun K hK => ?_)
  go_simp
  refine (HNx.out (w.heap.size + 1 + 1) w.heap.size (g + 1) 3 (by omega) _ HC2.out).mono ?_
  rintro e V3 ⟨rfl, hn3, hs3, hk3⟩
  have HNb := hid hn3
  have HSb3 := hid hs3
  have HK3 := hid (HK2'.out.t hk3)
  refine hK _ _ (fun _ => HSS.out _ HK3.out) ?_
  clear hK K hn3 hs3 hk3
  try simp only [List.set_cons_zero, List.set_cons_succ]
  have hXS := HSS.out _ HK3.out
  refine wpX_take (i := 20) (v := ?_) rfl rfl (by kernel_rfl) (fun _ _ _ h => h) (Or.inl ⟨rfl, fun wS hwS => ?_⟩) hXS ?_
  rotate_left
  · go_simp; try rfl
  simp only [List.set_cons_zero, List.set_cons_succ]
  have HOp3 : Hid (V3.rowIs (w.heap.size + 1) 24 5 (fun i => [.int .i64 0, .int .i64 0, .int .i64 0, .int .i64 0, .int .u64 0].getD i undef)) := HK3.out.row (by have := HNE.out; omega) HOp.out
  refine wpX_store_is (k := 21) (by kernel_rfl) rfl rfl rfl 24 _ _ rfl (w.heap.size + 1) 5 24 _ (fun i => (opv k (Oc.cap (nv 0)) (Oc.cap (nv 1)) (Oc.cap (nv 2)) (nv 3)).toList.getD i undef) (opv k (Oc.cap (nv 0)) (Oc.cap (nv 1)) (Oc.cap (nv 2)) (nv 3)) rfl rfl HOp3.out (by kernel_rfl) rfl (opv_get _ _ _ _ _) ?_ ?_
  · intro i hi
    rcases (show i = 0 ∨ i = 1 ∨ i = 2 ∨ i = 3 ∨ i = 4 by omega) with rfl | rfl | rfl | rfl | rfl <;> rfl
  intro V4 hrow4 _ hkeep4
  refine ⟨fun h => absurd rfl h, wpX_done (by kernel_rfl) ?_⟩
  have HOp4 := hid hrow4
  have HNb4 := hid (hkeep4.row (by omega) HNb.out)
  have HSb4 := hid (hkeep4.row (by have := HNE.out; omega) HSb3.out)
  have HK4 : Hid (KW w V4) := (HK2.out.kept HK3.out (by have := HNE.out; omega)).kept hkeep4 fun i hi => by omega
  have s0 := HSb4.out.cell (i := 0) (by omega)
  have n0 := HNb4.out.cell (i := 0) (by omega)
  have nf := HNb4.out.frozen 0
  clear hrow4 hkeep4 hXS HNb HSb3 HOp3 HK3 HC0 HC1 HC2 HClD HCl HK0 HK1 HK2' HSS
  by_cases hsh : N < nn 4
  · rw [decide_eq_true hsh] at s0
    have HRs := hid (HRd.out.trans (if_pos hsh))
    clear hsh HRd
    go_wp2_with (refine wpList_store_is rfl 24 _ _ rfl (w.heap.size + 1) 5 24 _ (fun i => [.int .i64 0, .int .i64 0, .int .i64 0, .int .i64 0, .int .u64 0].getD i undef) #[.int .i64 0, .int .i64 0, .int .i64 0, .int .i64 0, .int .u64 0] rfl rfl HOp4.out (by kernel_rfl) rfl ?qa1 ?qa2 ?_)
    case qa1 => intro i hi; rcases (show i = 0 ∨ i = 1 ∨ i = 2 ∨ i = 3 ∨ i = 4 by omega) with rfl | rfl | rfl | rfl | rfl <;> rfl
    case qa2 => intro i hi; rcases (show i = 0 ∨ i = 1 ∨ i = 2 ∨ i = 3 ∨ i = 4 by omega) with rfl | rfl | rfl | rfl | rfl <;> rfl
    intro V5 hrow5 hkeep5 _
    have hn5 := hkeep5.row (by omega) HNb4.out
    have m0 := hn5.cell (i := 0) (by omega)
    have mf := hn5.frozen 0
    have HH : Hid ((V5.setCell ⟨w.heap.size + 1 + 1, 0, none⟩ (.int .i64 0)).heap[w.heap.size + 1]? = some (.cells #[.int .i64 0, .int .i64 0, .int .i64 0, .int .i64 0, .int .u64 0] 24 (0, 0))) := whole (hrow5.setOther (by show w.heap.size + 1 ≠ w.heap.size + 1 + 1; omega) _)
    have HC5 : Hid ((V5.setCell ⟨w.heap.size + 1 + 1, 0, none⟩ (.int .i64 0)).cell? ⟨w.heap.size + 1 + 1, 0, none⟩ = some (.int .i64 0)) := World.cell?_setCell_same _ _ _ m0
    have HK5 : Hid (KW w (V5.setCell ⟨w.heap.size + 1 + 1, 0, none⟩ (.int .i64 0))) := Below.setCell (p := ⟨w.heap.size + 1 + 1, 0, none⟩) (HK4.out.kept hkeep5 fun i hi => by omega) (by show w.heap.size ≤ w.heap.size + 1 + 1; omega) _
    clear hrow5 hkeep5 hn5 s0 n0 nf
    go_wp2_with fail
    exact bodyPost_ret (results_cell2_tmp rfl _ _ _ _ _ (0, 0) _ _ (.int .i64 0) _ rfl HH.out Try.underlying24 rfl (by kernel_rfl) rfl HC5.out Try.underlying3 rfl) rfl ⟨by rw [HRs.out]; rfl, HK5.out⟩
  · rw [decide_eq_false hsh] at s0
    have HRs := hid (HRd.out.trans (if_neg hsh))
    have e0 := HVV.out 0 (Nat.le_trans (HMo.out 1 4 (by omega)) (Nat.le_of_not_lt hsh))
    have e1 := HVV.out 1 (Nat.le_trans (HMo.out 2 4 (by omega)) (Nat.le_of_not_lt hsh))
    have e2 := HVV.out 2 (Nat.le_trans (HMo.out 3 4 (by omega)) (Nat.le_of_not_lt hsh))
    have e3 := HVV.out 3 (Nat.le_of_not_lt hsh)
    rw [← e0, ← e1, ← e2, ← e3] at HRs
    clear hsh HRd e0 e1 e2 e3
    generalize Oc.cap (nv 0) = D at *
    generalize Oc.cap (nv 1) = A' at *
    generalize Oc.cap (nv 2) = B at *
    generalize nv 3 = V at *
    generalize hn4 : nn 4 = n4 at *
    go_wp2_with fail
    have b0 := HOp4.out.cell (i := 0) (by omega)
    have b1 := HOp4.out.cell (i := 1) (by omega)
    have b2 := HOp4.out.cell (i := 2) (by omega)
    have b3 := HOp4.out.cell (i := 3) (by omega)
    have b4 := HOp4.out.cell (i := 4) (by omega)
    simp only [opv, List.getD_cons_succ, List.getD_cons_zero] at b0 b1 b2 b3 b4
    have hXS := And.intro b0 (And.intro b1 (And.intro b2 (And.intro b3 (And.intro b4 n0))))
    have HX4 := hid hXS
    refine wpX_region (S := fun w' => w'.cell? ⟨w.heap.size + 1, 0, none⟩ = some (.int .i64 k) ∧ w'.cell? ⟨w.heap.size + 1, 1, none⟩ = some (.int .i64 D) ∧ w'.cell? ⟨w.heap.size + 1, 2, none⟩ = some (.int .i64 A') ∧ w'.cell? ⟨w.heap.size + 1, 3, none⟩ = some (.int .i64 B) ∧ w'.cell? ⟨w.heap.size + 1, 4, none⟩ = some (.int .u64 V) ∧ w'.cell? ⟨w.heap.size + 1 + 1, 0, none⟩ = some (.int .i64 (n4 : Int))) (L := 99) (by kernel_rfl) ?_
    refine wpX_take (i := 0) (v := ?_) rfl rfl (by kernel_rfl) (fun _ _ _ h => h) (Or.inl ⟨rfl, fun wS hwS => ?_⟩) hXS ?_
    rotate_left
    · go_simp; try rfl
    simp only [List.set_cons_zero, List.set_cons_succ]
    refine wpX_take (i := 1) (v := ?_) rfl rfl (by kernel_rfl) (fun _ _ _ h => h) (Or.inl ⟨rfl, fun wS hwS => ?_⟩) hXS ?_
    rotate_left
    · go_simp; try rfl
    simp only [List.set_cons_zero, List.set_cons_succ]
    clear hXS
    refine wpX_store_is (k := 2) (by kernel_rfl) rfl rfl rfl 24 _ _ rfl (w.heap.size + 1) 5 24 _ (fun i => (opv k D A' B V).toList.getD i undef) (opv k D A' B V) rfl rfl ((HOp4.out : V4.drew.rowIs _ _ _ _)) (by kernel_rfl) rfl (opv_get _ _ _ _ _) ?_ ?_
    · intro i hi
      rcases (show i = 0 ∨ i = 1 ∨ i = 2 ∨ i = 3 ∨ i = 4 by omega) with rfl | rfl | rfl | rfl | rfl <;> rfl
    intro V5 hrow5 hheap5 hkeep5
    have hn5 := hkeep5.row (by omega) (HNb4.out : V4.drew.rowIs _ _ _ _)
    have m0 := hn5.cell (i := 0) (by omega)
    have mf := hn5.frozen 0
    have a0 := hrow5.cell (i := 0) (by omega)
    have a1 := hrow5.cell (i := 1) (by omega)
    have a2 := hrow5.cell (i := 2) (by omega)
    have a3 := hrow5.cell (i := 3) (by omega)
    have a4 := hrow5.cell (i := 4) (by omega)
    simp only [opv, List.getD_cons_succ, List.getD_cons_zero] at a0 a1 a2 a3 a4
    have HX5 := hid (And.intro a0 (And.intro a1 (And.intro a2 (And.intro a3 (And.intro a4 m0)))))
    have r6 : ∀ o, (V5.setCell ⟨w.heap.size + 1 + 1, 0, none⟩ (.int .i64 (n4 : Int))).cell? ⟨w.heap.size + 1, o, none⟩ = V5.cell? ⟨w.heap.size + 1, o, none⟩ := fun o => World.cell?_of_block (w := V5) (heap_setCell_other V5 ⟨w.heap.size + 1 + 1, 0, none⟩ (w.heap.size + 1) _ (by show w.heap.size + 1 ≠ w.heap.size + 1 + 1; omega))
    have HC5 : Hid ((V5.setCell ⟨w.heap.size + 1 + 1, 0, none⟩ (.int .i64 (n4 : Int))).cell? ⟨w.heap.size + 1 + 1, 0, none⟩ = some (.int .i64 (n4 : Int))) := World.cell?_setCell_same _ _ _ m0
    have HX6 := hid (And.intro ((r6 0).trans a0) (And.intro ((r6 1).trans a1) (And.intro ((r6 2).trans a2) (And.intro ((r6 3).trans a3) (And.intro ((r6 4).trans a4) HC5.out)))))
    have HH : Hid ((V5.setCell ⟨w.heap.size + 1 + 1, 0, none⟩ (.int .i64 (n4 : Int))).heap[w.heap.size + 1]? = some (.cells (opv k D A' B V) 24 (0, 0))) := whole (hrow5.setOther (by show w.heap.size + 1 ≠ w.heap.size + 1 + 1; omega) _)
    have HK5 : Hid (KW w (V5.setCell ⟨w.heap.size + 1 + 1, 0, none⟩ (.int .i64 (n4 : Int)))) := Below.setCell (p := ⟨w.heap.size + 1 + 1, 0, none⟩) (HK4.out.drew.kept hkeep5 fun i hi => by omega) (by show w.heap.size ≤ w.heap.size + 1 + 1; omega) _
    refine ⟨fun _ => HX5.out, ?_⟩
    clear hrow5 hkeep5 hheap5 hn5 a0 a1 a2 a3 a4 r6 b0 b1 b2 b3 b4 s0 n0 nf HX4
    refine wpX_hard (k := 3) (by kernel_rfl) rfl (fun K hK => ?_)
    go_simp
    refine hK _ _ (fun _ => HX6.out) ?_
    clear hK K
    try simp only [List.set_cons_zero, List.set_cons_succ]
    have hXS := HX6.out
    refine wpX_take (i := 4) (v := ?_) rfl rfl (by kernel_rfl) (fun _ _ _ h => h) (Or.inl ⟨rfl, fun wS hwS => ?_⟩) hXS ?_
    rotate_left
    · go_simp; try rfl
    simp only [List.set_cons_zero, List.set_cons_succ]
    refine wpX_done (by kernel_rfl) ?_
    clear hXS
    go_wp2_with fail
    exact bodyPost_ret (results_cell2_tmp rfl _ _ _ _ _ (0, 0) _ _ (.int .i64 (n4 : Int)) _ rfl HH.out Try.underlying24 rfl (by kernel_rfl) rfl HC5.out Try.underlying3 rfl) rfl ⟨by rw [HRs.out]; rfl, HK5.out⟩
end Go.Proofs.Ytnpgiallgcliiaa
