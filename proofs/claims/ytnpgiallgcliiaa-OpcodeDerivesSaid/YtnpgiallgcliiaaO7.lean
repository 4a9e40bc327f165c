/- The reference's Read. -/
import Derived.Test.YtnpgiallgcliiaaO6
namespace Go.Proofs.Ytnpgiallgcliiaa
open Go.ChangeShapes Go.WideShapes Go.ChangeAt Go.RowKit
set_option linter.unusedVariables false

theorem rread_nil (A : Option Addr) (c : Nat) (w : World) :
    Calls Try.prog 17 #[.slice A 0 c] w (RdP w (Oc.rd [])) := by
  have hk := (KW.refl w).alloc (.cells #[.int .i64 0, .int .i64 0, .int .i64 0, .int .i64 0, .int .u64 0] 24)
  go_enter Try.func17, Try.ntmps17
  go_wp2_with fail
  exact bodyPost_ret (results_cell_tmp2 rfl _ _ _ _ _ (0, 0) _ rfl (heap_alloc_new w _) Try.underlying24 rfl (by kernel_rfl)) rfl ⟨rfl, hk⟩
theorem rd_far {l : List Int} (hl0 : 0 < l.length) (h8 : 8 ≤ l.getD 0 0) : Oc.rd l = ⟨0, 0, 0, 0, 0, 0, 6⟩ := by
  unfold Oc.rd
  rw [if_neg (by omega), if_pos h8]
theorem rread_far (A : Option Addr) (c : Nat) (l : List Int) (w : World) (hr : Row1 w A l.length fun i => .int .u64 (l.getD i 0)) (hl0 : 0 < l.length) (h8 : 8 ≤ l.getD 0 0) :
    Calls Try.prog 17 #[.slice A l.length c] w (RdP w (Oc.rd l)) := by
  have hk := (KW.refl w).alloc (.cells #[.int .i64 0, .int .i64 0, .int .i64 0, .int .i64 0, .int .u64 0] 24)
  rw [rd_far hl0 h8]
  obtain ⟨bA, oA, rfl, hbA, hcA⟩ := hr.at_ hl0
  simp only [Nat.add_zero] at hcA
  have d7 : 7 < l.getD 0 0 := by omega
  generalize l.getD 0 0 = k at *
  generalize l.length = N at *
  have dN : ((N : Int) == 0) = false := by simp; omega
  clear hr
  go_enter Try.func17, Try.ntmps17
  go_wp2_with fail
  exact bodyPost_ret (results_cell_tmp2 rfl _ _ _ _ _ (0, 0) _ rfl (heap_alloc_new w _) Try.underlying24 rfl (by kernel_rfl)) rfl ⟨rfl, hk⟩
theorem step_row {kp : Nat → Int} {j : Nat} {z : Int} (hz : kp j = z) (q : Nat) : (if q < j + 1 then kp q else 0) = if q = j then z else if q < j then kp q else 0 := by
  by_cases e : q = j
  · subst e; simp [hz]
  · by_cases e2 : q < j
    · simp [e, e2, show q < j + 1 by omega]
    · simp [e, e2, show ¬ q < j + 1 by omega]
theorem oread_far (A : Option Addr) (c : Nat) (l : List Int) (w : World) (hr : Row1 w A l.length fun i => .int .u64 (l.getD i 0)) (hl0 : 0 < l.length) (h8 : 8 ≤ l.getD 0 0) :
    Calls Try.prog 16 #[.slice A l.length c] w (RdP w (Oc.rd l)) := by
  rw [rd_far hl0 h8]
  obtain ⟨bA, oA, rfl, hbA, hcA⟩ := hr.at_ hl0
  simp only [Nat.add_zero] at hcA
  generalize l.getD 0 0 = k at *
  generalize l.length = N at *
  have dN : ((N : Int) == 0) = false := by simp; omega
  clear hr
  have hk := (((KW.refl w).alloc (.cells #[.slice (some ⟨bA, oA, none⟩) N c] 25)).alloc (.cells #[.int .i64 0, .int .i64 0, .int .i64 0, .int .i64 0, .int .u64 0] 24)).alloc (.cells #[.int .i64 0] 3)
  have q1 := KW.cell hk hbA hcA
  go_enter Try.func16, Try.ntmps16
  go_wp2_with fail
  exact bodyPost_ret (results_cell2_tmp rfl _ _ _ _ _ (0, 0) _ _ (.int .i64 0) _ rfl (heap3_mid w _ _ _) Try.underlying24 rfl (by kernel_rfl) rfl (by go_simp) Try.underlying3 rfl) rfl ⟨rfl, hk⟩

/-- the word at a place, as it is kept -/
def kept07 (l : List Int) (k : Int) (j : Nat) : Int := if j < 3 then Oc.cap (Oc.vv l k j) else Oc.vv l k j
set_option maxRecDepth 100000 in
set_option maxHeartbeats 2000000 in
theorem rread_in (A : Option Addr) (c : Nat) (l : List Int) (w : World) (hr : Row1 w A l.length fun i => .int .u64 (l.getD i 0)) (hl0 : 0 < l.length) (hl : l.length ≤ 1099511627776) (hb : ∀ x ∈ l, 0 ≤ x ∧ x ≤ 18446744073709551615) (h8 : l.getD 0 0 < 8) :
    Calls Try.prog 17 #[.slice A l.length c] w (RdP w (Oc.rd l)) := by
  have hk0 : 0 ≤ l.getD 0 0 := by
    rw [List.getD_eq_getElem?_getD, List.getElem?_eq_getElem hl0]
    exact (hb _ (List.getElem_mem hl0)).1
  obtain ⟨bA, oA, rfl, hbA, hcA⟩ := hr.at_ hl0
  have HO := hid (fun W => asks_any (l.getD 0 0) W)
  have HX : Hid (∀ i, i < 4 → (akv (l.getD 0 0))[i]? = some (.bool (ask4 (l.getD 0 0) i))) := by
    intro i hi
    rcases (show i = 0 ∨ i = 1 ∨ i = 2 ∨ i = 3 by omega) with rfl | rfl | rfl | rfl <;> rfl
  have HRs := hid (fun (h : l.length < Oc.nn (l.getD 0 0) 4) => (show Oc.rd l = ⟨0, 0, 0, 0, 0, 0, 4⟩ from by
    unfold Oc.rd
    rw [if_neg (by omega), if_neg (by omega), if_pos h]))
  have HRy := hid (fun (h : ¬ l.length < Oc.nn (l.getD 0 0) 4) => (show Oc.rd l = ⟨l.getD 0 0, kept07 l (l.getD 0 0) 0, kept07 l (l.getD 0 0) 1, kept07 l (l.getD 0 0) 2, kept07 l (l.getD 0 0) 3, Oc.nn (l.getD 0 0) 4, 0⟩ from by
    unfold Oc.rd
    rw [if_neg (by omega), if_neg (by omega), if_neg h]
    rfl))
  have HMo := hid (fun i j (h : i ≤ j) => Oc.nn_mono (l.getD 0 0) h)
  have HN5 := hid (fun j => Oc.nn_le (l.getD 0 0) j)
  have Hn1 := hid (show Oc.nn (l.getD 0 0) 0 = 1 from rfl)
  have Hny := hid (fun j (h : ask4 (l.getD 0 0) j = true) => (show Oc.nn (l.getD 0 0) (j + 1) = Oc.nn (l.getD 0 0) j + 1 from by
    show (if ask4 (l.getD 0 0) j = true then _ else _) = _
    rw [if_pos h]))
  have Hnn := hid (fun j (h : ask4 (l.getD 0 0) j = false) => (show Oc.nn (l.getD 0 0) (j + 1) = Oc.nn (l.getD 0 0) j from by
    show (if ask4 (l.getD 0 0) j = true then _ else _) = _
    rw [h]; rfl))
  have Hv0 := hid (fun j (h : ask4 (l.getD 0 0) j = false) => (show kept07 l (l.getD 0 0) j = 0 from by
    unfold kept07 Oc.vv
    rw [h]
    split <;> rfl))
  have Hv1 := hid (fun j (h : ask4 (l.getD 0 0) j = true) => (show kept07 l (l.getD 0 0) j = if j < 3 then Oc.cap (l.getD (Oc.nn (l.getD 0 0) j) 0) else l.getD (Oc.nn (l.getD 0 0) j) 0 from by
    unfold kept07 Oc.vv
    rw [if_pos h]))
  have HVb : Hid (∀ j, 0 ≤ l.getD j 0 ∧ l.getD j 0 ≤ 18446744073709551615) := by
    intro j
    by_cases hj : j < l.length
    · rw [List.getD_eq_getElem?_getD, List.getElem?_eq_getElem hj]
      exact hb _ (List.getElem_mem hj)
    · rw [List.getD_eq_getElem?_getD, List.getElem?_eq_none (by omega)]
      simp
  have HKb : Hid (∀ j, j < 3 → 0 ≤ kept07 l (l.getD 0 0) j ∧ kept07 l (l.getD 0 0) j ≤ 2147483647) := by
    intro j hj
    unfold kept07 Oc.vv Oc.cap
    rw [if_pos hj]
    have h := HVb.out (Oc.nn (l.getD 0 0) j)
    generalize l.getD (Oc.nn (l.getD 0 0) j) 0 = z at *
    split <;> omega
  have E0 := hid (show Oc.aD (l.getD 0 0) = ask4 (l.getD 0 0) 0 from rfl)
  have E1 := hid (show Oc.aA (l.getD 0 0) = ask4 (l.getD 0 0) 1 from rfl)
  have E2 := hid (show Oc.aB (l.getD 0 0) = ask4 (l.getD 0 0) 2 from rfl)
  have E3 := hid (show Oc.aV (l.getD 0 0) = ask4 (l.getD 0 0) 3 from rfl)
  unfold akv at HO HX
  rw [E0.out, E1.out, E2.out, E3.out] at HO HX
  clear E0 E1 E2 E3
  have HR := hid hr
  have hc0 := hcA
  simp only [Nat.add_zero] at hc0
  generalize kept07 l (l.getD 0 0) = kp at *
  generalize Oc.nn (l.getD 0 0) = nn at *
  generalize ask4 (l.getD 0 0) = ask at *
  have HL0 := hid (show l.getD 0 0 = l.getD 0 0 from rfl)
  generalize hk1 : l.getD 0 0 = k at hc0 hcA HRy HO h8 hk0
  have HK1 := hid hk1
  generalize hN : l.length = N at *
  have HL := hid hN
  clear hN hb hr HL0 hk1 hcA
  have dk : decide (7 < k) = false := decide_eq_false (by omega)
  have dN : ((N : Int) == 0) = false := by simp; omega
  go_enter Try.func17, Try.ntmps17
  go_wp2_with fail
  refine (HO.out _).mono ?_
  rintro e w1 ⟨rfl, hb⟩
  have HOp := hid (KW.row hb (by simp) (World.rowIs_alloc w #[.int .i64 0, .int .i64 0, .int .i64 0, .int .i64 0, .int .u64 0] 24 (fun i => [.int .i64 0, .int .i64 0, .int .i64 0, .int .i64 0, .int .u64 0].getD i undef) fun i hi => by simp at hi; simp [hi]))
  have HKw := hid (((KW.refl w).alloc _).t hb)
  have HG := hid (show w.heap.size < w1.heap.size from Nat.lt_of_lt_of_le (by simp) hb.size)
  clear hb
  go_wp2_with fail
  refine wpCode_world (fun W => KW w W ∧ W.rowIs w.heap.size 24 5 (fun i => [.int .i64 0, .int .i64 0, .int .i64 0, .int .i64 0, .int .u64 0].getD i undef) ∧ W.rowIs w1.heap.size 53 4 (fun i => .bool (ask i)) ∧ W.rowIs (w1.heap.size + 1) 74 4 (fun _ => .int .u64 0)) ⟨(HKw.out.alloc _).alloc _, (HOp.out.alloc _).alloc _, ?_, ?_⟩ ?_
  · exact (World.rowIs_alloc w1 #[.bool (ask 0), .bool (ask 1), .bool (ask 2), .bool (ask 3)] 53 (fun i => .bool (ask i)) HX.out).alloc _
  · have h := World.rowIs_alloc (w1.alloc (.cells #[.bool (ask 0), .bool (ask 1), .bool (ask 2), .bool (ask 3)] 53)) #[.int .u64 0, .int .u64 0, .int .u64 0, .int .u64 0] 74 (fun _ => .int .u64 0) fun i hi => by
      rcases (show i = 0 ∨ i = 1 ∨ i = 2 ∨ i = 3 by simp at hi; omega) with rfl | rfl | rfl | rfl <;> rfl
    simpa using h
  rintro W2 ⟨hk, hop, hx, hv⟩
  have HK2 := hid hk
  have HOp2 := hid hop
  have HX2 := hid hx
  have HV2 := hid hv
  clear hk hop hx hv HOp HKw HX
  generalize w1.heap.size = g at *
  go_loopw [7, 8] (fun n i wr => ∃ (j : Nat), j ≤ 4 ∧ n = .int .i64 (nn j) ∧ i = .int .i64 j ∧ nn j ≤ N ∧ Hid (wr.rowIs (g + 1) 74 4 (fun q => .int .u64 (if q < j then kp q else 0))) ∧ Hid (Keep (· = g + 1) W2 wr)) (fun _ i _ => 4 - (intOf i).toNat)
  case atStart => exact ⟨0, by omega, by rw [Hn1.out]; rfl, rfl, by rw [Hn1.out]; omega, HV2.out.congr fun q hq => by simp, Keep.refl _ _⟩
  case round =>
    obtain ⟨j, hj, rfl, rfl, hnN, HV, HK⟩ := hrel
    have HXj := hid (HK.out.row (by omega) HX2.out)
    have HOj := hid (HK.out.row (by have := HG.out; omega) HOp2.out)
    have HKz : Hid (KW w wr) := HK2.out.kept HK.out fun i hi => by have := HG.out; omega
    have HRj := hid (HR.out.k HKz.out)
    by_cases hlt : j < 4
    · have x := HXj.out.cell (i := j) (by omega)
      have v := HV.out.cell (i := j) (by omega)
      have vf := HV.out.frozen j
      have L5 : (j : Int) < 4 := by omega
      have h5 := HN5.out j
      cases hask : ask j with
      | false =>
        rw [hask] at x
        have en := hid (Hnn.out j hask)
        have ek := hid (Hv0.out j hask)
        have HV3 : Hid (wr.rowIs (g + 1) 74 4 (fun q => .int .u64 (if q < j + 1 then kp q else 0))) := HV.out.congr fun q hq => by
          by_cases e : q = j
          · subst e; simp [ek.out]
          · by_cases e2 : q < j
            · simp [e2, show q < j + 1 by omega]
            · simp [e2, show ¬ q < j + 1 by omega]
        clear hask v vf
        go_wp2_with fail
        go_roundw
        case rel => exact ⟨j + 1, by omega, by rw [en.out], by go_num, by rw [en.out]; exact hnN, HV3, HK⟩
        case measure => simp [intOf]; omega
      | true =>
        rw [hask] at x
        have en := hid (Hny.out j hask)
        have ek := hid (Hv1.out j hask)
        by_cases hsh : nn j < N
        · obtain ⟨q1, o1, hA1, hq1, hc1⟩ := HRj.out.at_ (show nn j < N from hsh)
          obtain ⟨rfl, rfl, _⟩ : bA = q1 ∧ oA = o1 ∧ True := by cases hA1; exact ⟨rfl, rfl, trivial⟩
          have hz := HVb.out (nn j)
          have hne : bA ≠ g + 1 := by have := HG.out; omega
          have HZ : Hid (∀ zz : Int, kp j = zz → (wr.setCell ⟨g + 1, j, none⟩ (.int .u64 zz)).rowIs (g + 1) 74 4 (fun q => .int .u64 (if q < j + 1 then kp q else 0))) := fun zz hzz => (HV.out.set j (.int .u64 zz)).congr fun q hq => by
            rw [step_row hzz q]
            by_cases e : q = j
            · subst e; simp
            · simp [e]
          have HZ2 : Hid (∀ zz zy : Int, kp j = zz → ((wr.setCell ⟨g + 1, j, none⟩ (.int .u64 zy)).setCell ⟨g + 1, j, none⟩ (.int .u64 zz)).rowIs (g + 1) 74 4 (fun q => .int .u64 (if q < j + 1 then kp q else 0))) := fun zz zy hzz => ((HV.out.set j (.int .u64 zy)).set j (.int .u64 zz)).congr fun q hq => by
            rw [step_row hzz q]
            by_cases e : q = j
            · subst e; simp
            · simp [e]
          have HKn := hid (fun (z : Int) => HK.out.setCell ⟨g + 1, j, none⟩ (.int .u64 z) rfl)
          have HKn2 := hid (fun (z y : Int) => (HK.out.setCell ⟨g + 1, j, none⟩ (.int .u64 z) rfl).setCell ⟨g + 1, j, none⟩ (.int .u64 y) rfl)
          generalize l.getD (nn j) 0 = z at *
          have d1 : decide ((N : Int) ≤ (nn j : Int)) = false := decide_eq_false (by omega)
          obtain ⟨z0, z1⟩ := hz
          have hn1 : nn (j + 1) ≤ N := by rw [en.out]; omega
          have hnj : nn (j + 1) = nn j + 1 := en.out
          by_cases h3 : j < 3
          · have L3 : (j : Int) < 3 := by omega
            by_cases hM : 2147483647 < z
            · have HF := hid (HZ2.out 2147483647 z (by rw [ek.out, if_pos h3]; show min z 2147483647 = _; omega))
              have HF2 := hid (HKn2.out z 2147483647)
              clear HZ HZ2 HKn HKn2 hask hsh h3 hA1
              go_wp2_with fail
              go_roundw
              case rel => exact ⟨j + 1, by omega, by rw [hnj]; go_num, by go_num, hn1, HF, HF2⟩
              case measure => simp [intOf]; omega
            · have dM : decide (2147483647 < z) = false := decide_eq_false hM
              have HF := hid (HZ.out z (by rw [ek.out, if_pos h3]; show min z 2147483647 = _; omega))
              have HF2 := hid (HKn.out z)
              clear HZ HZ2 HKn HKn2 hask hsh h3 hM hA1
              go_wp2_with fail
              go_roundw
              case rel => exact ⟨j + 1, by omega, by rw [hnj]; go_num, by go_num, hn1, HF, HF2⟩
              case measure => simp [intOf]; omega
          · have L3 : decide ((j : Int) < 3) = false := decide_eq_false (by omega)
            have HF := hid (HZ.out z (by rw [ek.out, if_neg h3]))
            have HF2 := hid (HKn.out z)
            clear HZ HZ2 HKn HKn2 hask hsh h3 hA1
            go_wp2_with fail
            go_roundw
            case rel => exact ⟨j + 1, by omega, by rw [hnj]; go_num, by go_num, hn1, HF, HF2⟩
            case measure => simp [intOf]; omega
        · have d1 : (N : Int) ≤ (nn j : Int) := by omega
          have HRd := hid (HRs.out (by have := HMo.out (j + 1) 4 (by omega); rw [en.out] at this; omega))
          clear hask hsh v vf
          go_wp2_with (refine wpList_store_is rfl 24 _ _ rfl w.heap.size 5 24 _ (fun i => [.int .i64 0, .int .i64 0, .int .i64 0, .int .i64 0, .int .u64 0].getD i undef) #[.int .i64 0, .int .i64 0, .int .i64 0, .int .i64 0, .int .u64 0] rfl rfl HOj.out (by kernel_rfl) rfl ?qa1 ?qa2 ?_)
          case qa1 => intro i hi; rcases (show i = 0 ∨ i = 1 ∨ i = 2 ∨ i = 3 ∨ i = 4 by omega) with rfl | rfl | rfl | rfl | rfl <;> rfl
          case qa2 => intro i hi; rcases (show i = 0 ∨ i = 1 ∨ i = 2 ∨ i = 3 ∨ i = 4 by omega) with rfl | rfl | rfl | rfl | rfl <;> rfl
          intro V5 hrow5 hkeep5 _
          have HH : Hid (V5.heap[w.heap.size]? = some (.cells #[.int .i64 0, .int .i64 0, .int .i64 0, .int .i64 0, .int .u64 0] 24 (0, 0))) := whole hrow5
          have HK5 : Hid (KW w V5) := HKz.out.kept hkeep5 fun i hi => by omega
          clear hrow5 hkeep5
          go_wp2_with fail
          exact bodyPost_ret (results_cell_tmp2 rfl _ _ _ _ _ (0, 0) _ rfl HH.out Try.underlying24 rfl (by kernel_rfl)) rfl ⟨by rw [HRd.out]; rfl, HK5.out⟩
    · obtain rfl : j = 4 := by omega
      have HRd := hid (HRy.out (by omega))
      have v0 := HV.out.cell (i := 0) (by omega)
      have v1 := HV.out.cell (i := 1) (by omega)
      have v2 := HV.out.cell (i := 2) (by omega)
      have v3 := HV.out.cell (i := 3) (by omega)
      simp only [if_pos (show 0 < 4 by omega), if_pos (show 1 < 4 by omega), if_pos (show 2 < 4 by omega), if_pos (show 3 < 4 by omega)] at v0 v1 v2 v3
      obtain ⟨q1, o1, hA1, hq1, hc1⟩ := HRj.out.at_ hl0
      obtain ⟨rfl, rfl, _⟩ : bA = q1 ∧ oA = o1 ∧ True := by cases hA1; exact ⟨rfl, rfl, trivial⟩
      simp only [Nat.add_zero, HK1.out] at hc1
      have hwk : IntKind.i64.wrap k = k := IntWalk.i64_in _ (by omega)
      have hw0 : IntKind.i64.wrap (kp 0) = kp 0 := IntWalk.i64_in _ (by have := HKb.out 0 (by omega); omega)
      have hw1 : IntKind.i64.wrap (kp 1) = kp 1 := IntWalk.i64_in _ (by have := HKb.out 1 (by omega); omega)
      have hw2 : IntKind.i64.wrap (kp 2) = kp 2 := IntWalk.i64_in _ (by have := HKb.out 2 (by omega); omega)
      have hXS := And.intro hc1 (And.intro v0 (And.intro v1 (And.intro v2 v3)))
      have HX0 := hid hXS
      clear hlt hA1
      generalize nn 4 = n4 at *
      generalize kp 0 = k0 at *
      generalize kp 1 = k1 at *
      generalize kp 2 = k2 at *
      generalize kp 3 = k3 at *
      go_wp2_with fail
      refine wpX_region (S := fun w' => w'.cell? ⟨bA, oA, none⟩ = some (.int .u64 k) ∧ w'.cell? ⟨g + 1, 0, none⟩ = some (.int .u64 k0) ∧ w'.cell? ⟨g + 1, 1, none⟩ = some (.int .u64 k1) ∧ w'.cell? ⟨g + 1, 2, none⟩ = some (.int .u64 k2) ∧ w'.cell? ⟨g + 1, 3, none⟩ = some (.int .u64 k3)) (L := 99) (by kernel_rfl) ?_
      refine wpX_take (i := 0) (v := ?_) rfl rfl (by kernel_rfl) (fun _ _ _ h => h) (Or.inl ⟨rfl, fun wS hwS => ?_⟩) hXS ?_
      rotate_left
      · go_simp; try rfl
      simp only [List.set_cons_zero, List.set_cons_succ]
      refine wpX_take (i := 1) (v := ?_) rfl rfl (by kernel_rfl) (fun _ _ _ h => h) (Or.inl ⟨rfl, fun wS hwS => ?_⟩) hXS ?_
      rotate_left
      · go_simp; try rfl
      simp only [List.set_cons_zero, List.set_cons_succ]
      refine wpX_take (i := 2) (v := ?_) rfl rfl (by kernel_rfl) (fun _ _ _ h => h) (Or.inl ⟨rfl, fun wS hwS => ?_⟩) hXS ?_
      rotate_left
      · go_simp; try rfl
      simp only [List.set_cons_zero, List.set_cons_succ]
      refine wpX_take (i := 3) (v := ?_) rfl rfl (by kernel_rfl) (fun _ _ _ h => h) (Or.inl ⟨rfl, fun wS hwS => ?_⟩) hXS ?_
      rotate_left
      · go_simp; try rfl
      simp only [List.set_cons_zero, List.set_cons_succ]
      refine wpX_take (i := 4) (v := ?_) rfl rfl (by kernel_rfl) (fun _ _ _ h => h) (Or.inl ⟨rfl, fun wS hwS => ?_⟩) hXS ?_
      rotate_left
      · go_simp; try rfl
      simp only [List.set_cons_zero, List.set_cons_succ]
      refine wpX_take (i := 5) (v := ?_) rfl rfl (by kernel_rfl) (fun _ _ _ h => h) (Or.inl ⟨rfl, fun wS hwS => ?_⟩) hXS ?_
      rotate_left
      · go_simp; try rfl
      simp only [List.set_cons_zero, List.set_cons_succ]
      refine wpX_take (i := 6) (v := ?_) rfl rfl (by kernel_rfl) (fun _ _ _ h => h) (Or.inl ⟨rfl, fun wS hwS => ?_⟩) hXS ?_
      rotate_left
      · go_simp; try rfl
      simp only [List.set_cons_zero, List.set_cons_succ]
      refine wpX_take (i := 7) (v := ?_) rfl rfl (by kernel_rfl) (fun _ _ _ h => h) (Or.inl ⟨rfl, fun wS hwS => ?_⟩) hXS ?_
      rotate_left
      · go_simp; try rfl
      simp only [List.set_cons_zero, List.set_cons_succ]
      refine wpX_take (i := 8) (v := ?_) rfl rfl (by kernel_rfl) (fun _ _ _ h => h) (Or.inl ⟨rfl, fun wS hwS => ?_⟩) hXS ?_
      rotate_left
      · go_simp; try rfl
      simp only [List.set_cons_zero, List.set_cons_succ]
      refine wpX_take (i := 9) (v := ?_) rfl rfl (by kernel_rfl) (fun _ _ _ h => h) (Or.inl ⟨rfl, fun wS hwS => ?_⟩) hXS ?_
      rotate_left
      · go_simp; try rfl
      simp only [List.set_cons_zero, List.set_cons_succ]
      refine wpX_take (i := 10) (v := ?_) rfl rfl (by kernel_rfl) (fun _ _ _ h => h) (Or.inl ⟨rfl, fun wS hwS => ?_⟩) hXS ?_
      rotate_left
      · go_simp; try rfl
      simp only [List.set_cons_zero, List.set_cons_succ]
      refine wpX_take (i := 11) (v := ?_) rfl rfl (by kernel_rfl) (fun _ _ _ h => h) (Or.inl ⟨rfl, fun wS hwS => ?_⟩) hXS ?_
      rotate_left
      · go_simp; try rfl
      simp only [List.set_cons_zero, List.set_cons_succ]
      refine wpX_take (i := 12) (v := ?_) rfl rfl (by kernel_rfl) (fun _ _ _ h => h) (Or.inl ⟨rfl, fun wS hwS => ?_⟩) hXS ?_
      rotate_left
      · go_simp; try rfl
      simp only [List.set_cons_zero, List.set_cons_succ]
      refine wpX_take (i := 13) (v := ?_) rfl rfl (by kernel_rfl) (fun _ _ _ h => h) (Or.inl ⟨rfl, fun wS hwS => ?_⟩) hXS ?_
      rotate_left
      · go_simp; try rfl
      simp only [List.set_cons_zero, List.set_cons_succ]
      refine wpX_take (i := 14) (v := ?_) rfl rfl (by kernel_rfl) (fun _ _ _ h => h) (Or.inl ⟨rfl, fun wS hwS => ?_⟩) hXS ?_
      rotate_left
      · go_simp; try rfl
      simp only [List.set_cons_zero, List.set_cons_succ]
      refine wpX_take (i := 15) (v := ?_) rfl rfl (by kernel_rfl) (fun _ _ _ h => h) (Or.inl ⟨rfl, fun wS hwS => ?_⟩) hXS ?_
      rotate_left
      · go_simp; try rfl
      simp only [List.set_cons_zero, List.set_cons_succ]
      refine wpX_take (i := 16) (v := ?_) rfl rfl (by kernel_rfl) (fun _ _ _ h => h) (Or.inl ⟨rfl, fun wS hwS => ?_⟩) hXS ?_
      rotate_left
      · go_simp; try rfl
      simp only [List.set_cons_zero, List.set_cons_succ]
      clear hXS
      refine wpX_store_is (k := 17) (by kernel_rfl) rfl rfl rfl 24 _ _ rfl w.heap.size 5 24 _ (fun i => (opv k k0 k1 k2 k3).toList.getD i undef) (opv k k0 k1 k2 k3) rfl rfl (HOj.out : wr.drew.rowIs _ _ _ _) (by kernel_rfl) rfl (opv_get _ _ _ _ _) ?_ ?_
      · intro i hi
        rcases (show i = 0 ∨ i = 1 ∨ i = 2 ∨ i = 3 ∨ i = 4 by omega) with rfl | rfl | rfl | rfl | rfl <;> rfl
      intro V5 hrow5 hheap5 hkeep5
      have hlg := HG.out
      have hV := (HV.out : wr.drew.rowIs _ _ _ _).lt
      have HX5 := hid (And.intro ((hkeep5.cell (b := bA) (Nat.lt_of_lt_of_le hbA HKz.out.size) (by omega)).trans HX0.out.1) (And.intro ((hkeep5.cell hV (by omega)).trans HX0.out.2.1) (And.intro ((hkeep5.cell hV (by omega)).trans HX0.out.2.2.1) (And.intro ((hkeep5.cell hV (by omega)).trans HX0.out.2.2.2.1) ((hkeep5.cell hV (by omega)).trans HX0.out.2.2.2.2)))))
      have HH : Hid (V5.heap[w.heap.size]? = some (.cells (opv k k0 k1 k2 k3) 24 (0, 0))) := whole hrow5
      have HK5 : Hid (KW w V5) := HKz.out.drew.kept hkeep5 fun i hi => by omega
      refine ⟨fun _ => HX5.out, ?_⟩
      clear hrow5 hkeep5 hheap5 v0 v1 v2 v3 hc1
      have hXS := HX5.out
      refine wpX_take (i := 18) (v := ?_) rfl rfl (by kernel_rfl) (fun _ _ _ h => h) (Or.inl ⟨rfl, fun wS hwS => ?_⟩) hXS ?_
      rotate_left
      · go_simp; try rfl
      simp only [List.set_cons_zero, List.set_cons_succ]
      refine wpX_take (i := 19) (v := ?_) rfl rfl (by kernel_rfl) (fun _ _ _ h => h) (Or.inl ⟨rfl, fun wS hwS => ?_⟩) hXS ?_
      rotate_left
      · go_simp; try rfl
      simp only [List.set_cons_zero, List.set_cons_succ]
      refine wpX_done (by kernel_rfl) ?_
      clear hXS
      go_wp2_with fail
      exact bodyPost_ret (results_cell_tmp2 rfl _ _ _ _ _ (0, 0) _ rfl HH.out Try.underlying24 rfl (by kernel_rfl)) rfl ⟨by rw [HRd.out]; rfl, HK5.out⟩
theorem rread_any (A : Option Addr) (c : Nat) (l : List Int) (w : World) (hr : Row1 w A l.length fun i => .int .u64 (l.getD i 0)) (hl : l.length ≤ 1099511627776) (hb : ∀ x ∈ l, 0 ≤ x ∧ x ≤ 18446744073709551615) :
    Calls Try.prog 17 #[.slice A l.length c] w (RdP w (Oc.rd l)) := by
  by_cases h0 : l.length = 0
  · obtain rfl : l = [] := List.length_eq_zero_iff.1 h0
    exact rread_nil A c w
  · by_cases h8 : 8 ≤ l.getD 0 0
    · exact rread_far A c l w hr (by omega) h8
    · exact rread_in A c l w hr (by omega) hl hb (by omega)
theorem oread_any (A : Option Addr) (c : Nat) (l : List Int) (w : World) (hr : Row1 w A l.length fun i => .int .u64 (l.getD i 0)) (hl : l.length ≤ 1099511627776) (hb : ∀ x ∈ l, 0 ≤ x ∧ x ≤ 18446744073709551615) :
    Calls Try.prog 16 #[.slice A l.length c] w (RdP w (Oc.rd l)) := by
  by_cases h0 : l.length = 0
  · obtain rfl : l = [] := List.length_eq_zero_iff.1 h0
    exact oread_nil A c w
  · by_cases h8 : 8 ≤ l.getD 0 0
    · exact oread_far A c l w hr (by omega) h8
    · exact oread_in A c l w hr (by omega) hl hb (by omega)
end Go.Proofs.Ytnpgiallgcliiaa
