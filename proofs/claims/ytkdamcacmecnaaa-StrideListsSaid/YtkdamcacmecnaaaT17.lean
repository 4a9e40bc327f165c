/- Contract of the reference's List (layer 31). -/
import Derived.Test.YtkdamcacmecnaaaT16
namespace Go.Proofs.Ytkdamcacmecnaaa
open Go.ChangeShapes Go.WideShapes Go.ChangeAt Go.RowKit
set_option linter.unusedVariables false

/-- a list that grows beside numbers that stay -/
structure Acc (w : World) (v : Value) (T : List Int) (vo : Value) (l : List Mc.Act) (W : World) : Prop where
  own : OwnsA W w.heap.size vo l
  tg : Tgo W w.heap.size v T
  dis : ∀ b, vo.ownBlock = some b → ¬ tbk v = some b
  kw : KW w W
theorem Acc.slice {w : World} {v : Value} {T : List Int} {vo : Value} {l : List Mc.Act} {W : World} (h : Acc w v T vo l W) : ∃ A c, vo = .slice A l.length c := by
  obtain ⟨A, c, hv, _⟩ := h.own.slice
  exact ⟨A, c, hv⟩
section
variable {P : Program} {ops : Array Oper} {Q : Exit → Act → World → Prop}
theorem acc_app {rest : List Oper} {o : Oper} {a : Act} (hgd : o.guard = none) {s x : Operand} (ho : o.op = .call { callee := .builtin .append, args := #[s, x], argTypes := #[22, 22] })
    {w W : World} {v vo : Value} {T : List Int} {l : List Mc.Act} {p q : Int} (hA : Acc w v T vo l W) (hs : a.eval s = vo) (hx : a.eval x = .slice (some ⟨W.heap.size, 0, none⟩) 1 1) (hl : l.length ≤ 8000000000)
    (h : ∀ l' A' c' w', Hid (l' = l ++ [(p, q)]) → Hid (Acc w v T (.slice A' l'.length c') l' w') → wpList Try.prog ops Q rest (a.put o.dst (.slice A' l'.length c')) w') :
    wpList Try.prog ops Q (o :: rest) a (W.alloc (.cells #[.int .i64 p, .int .i64 q] 55)) := by
  have hK := hA.kw.alloc (.cells #[.int .i64 p, .int .i64 q] 55)
  have hO := hA.own.kw ((KW.refl W).alloc (.cells #[.int .i64 p, .int .i64 q] 55))
  refine wpList_appA hgd sliceAct ho (W := W.alloc (.cells #[.int .i64 p, .int .i64 q] 55)) (base := w.heap.size) (k := 1) (n := l.length) (v := vo) (u := .slice (some ⟨W.heap.size, 0, none⟩) 1 1) (xs := acl l) (ys := [.int .i64 p, .int .i64 q]) hs hx
    (Holds.new (w := W) (t := 55) (k := 1) (size := 2) (c := 1) (ys := [.int .i64 p, .int .i64 q]) rfl rfl) hO hK.size (by omega) (by omega) fun v5 w5 hown5 hkeep5 hv5 => ?_
  have hO5 : OwnsA w5 w.heap.size v5 (l ++ [(p, q)]) := OwnsA.app (l' := [(p, q)]) hown5
  obtain ⟨A5, c5, hv5', _, _⟩ := hO5.slice
  subst hv5'
  refine h _ A5 c5 w5 (hid rfl) ⟨hO5, (hA.tg.kw ((KW.refl W).alloc _)).keep hkeep5 fun b hb hh => hA.dis b hh hb, fun b hb h2 => ?_, hK.kept hkeep5 fun i hi => (hO.lt hi).1⟩
  rcases hv5 with hh | hh
  · exact hA.dis b (by rw [← hh]; exact hb) h2
  · rw [hh] at hb
    cases hb
    have := (hA.tg.lt h2).2
    simp at this
    omega
end

set_option maxRecDepth 100000 in
set_option maxHeartbeats 4000000 in
theorem rslist_yes (l n : Nat) (w : World) (hl : l < 65536) (hn : 1 ≤ n ∧ n ≤ 1048576) :
    Calls Try.prog 36 #[.int .i64 l, .int .i64 n] w (ActsP w (Sd.lA n l) 0) := by
  have HS := hid (fun W => rstride_yes l n W (by omega) (by omega) (by omega) (by omega))
  have HN := hid (fun W => rsteps_any l n W hl hn)
  have hlen := Sd.lA_le (n := n) (l := l) hl
  have hTl := Sd.aT_len n l
  have hd := Sd.sd_pos (l : Int) (n : Int)
  have HSl := hid (fun t v W (h : Tgo W w.heap.size v (Sd.aT n l)) => (by
    obtain ⟨A, c, rfl, hr⟩ := h.rt0
    exact rslot_any t (Sd.aT n l) A c W (by rw [hTl]; omega) hr : Calls Try.prog 56 #[v, .int .i64 t] W fun e w' => e = .returned (.int .i64 (Sd.slot (Sd.aT n l) t)) ∧ W = w'))
  unfold AheadP at HN
  unfold ActsP
  have hLA : Sd.lA n l = Sd.aA n l ++ Sd.bL (Sd.sd l n) (Sd.aT n l) l := rfl
  generalize Sd.lA n l = la at *
  generalize Sd.aA n l = aa at *
  generalize Sd.aT n l = T at *
  generalize Sd.sd l n = d at *
  have HLA := hid hLA
  have hal : aa.length ≤ la.length := by rw [hLA]; simp
  have hbl : aa.length + (Sd.bL d T l).length = la.length := by rw [hLA]; simp
  clear hLA
  go_enter Try.func36, Try.ntmps36
  go_wp2_with (go_at_call 23; refine (HS.out _).mono ?_; rintro e w1 ⟨rfl, rfl⟩)
  refine (HN.out _).mono ?_
  rintro e w1 ⟨A, c, v, rfl, ho, ht, hdis, hk⟩
  have HAc : Hid (Acc w v T (.slice A aa.length c) aa w1) := ⟨ho, ht, hdis, hk⟩
  obtain ⟨A2, c2, hv2, _⟩ := ht
  rw [hTl] at hv2
  subst hv2
  have HTL := hid hTl
  clear hTl
  clear ho hdis hk
  have hal2 : aa.length ≤ 8000000000 := by omega
  have hm := Int.emod_nonneg (l : Int) (show d ≠ 0 by omega)
  have hm2 := Int.emod_lt_of_pos (l : Int) (show 0 < d by omega)
  have HSL := hid (fun W (h : Tgo W w.heap.size (.slice A2 n c2) T) => HSl.out l _ W h)
  have HSB := hid (fun t W (h : Tgo W w.heap.size (.slice A2 n c2) T) => HSl.out t _ W h)
  have HBL : Hid (Sd.bL d T l = (5, 0) :: ((if (l : Int) % d = 0 then [(4, Sd.slot T l)] else []) ++ Sd.bD d T l)) := rfl
  have HDl := hid (fun i => Sd.bD_le d T i)
  have HD0 : Hid (Sd.bD d T 0 = []) := rfl
  have HDs : Hid (∀ i, Sd.bD d T (i + 1) = Sd.bR d T i ++ Sd.bD d T i) := fun i => rfl
  have HR0 : Hid (∀ i : Nat, (i : Int) % d = 0 → Sd.bR d T i = [(3, Sd.slot T i), (7, 0), (4, Sd.slot T i)]) := fun i h => by unfold Sd.bR; rw [if_neg (by omega), if_pos h, h]; simp
  have HR1 : Hid (∀ i : Nat, 0 < (i : Int) % d → Sd.bR d T i = [(3, Sd.slot T (i - i % d)), (1, i - (i - i % d)), (7, 0)]) := fun i h => by unfold Sd.bR; rw [if_pos h, if_neg (by omega), show (i : Int) - (i - i % d) = i % d by omega]; rfl
  have hbd := Sd.bL_le d T l
  have hbig : aa.length + 4 * l + 2 ≤ 8000000000 - 10 := by omega
  clear HSl
  by_cases c0 : (l : Int) % d = 0
  · have e0 : ((l : Int) % d == 0) = true := by simpa using c0
    have HBL2 : Hid (Sd.bL d T l = (5, 0) :: (4, Sd.slot T l) :: Sd.bD d T l) := by rw [HBL.out, if_pos c0]; rfl
    clear c0 HBL
    generalize Sd.slot T l = sl at *
    go_wp2_with (at_builtin; refine acc_app (p := 5) (q := 0) rfl rfl HAc.out rfl rfl hal2 ?_; intro l5 A5 c5 w5 E5 H5)
    refine (HSL.out _ H5.out.tg).mono ?_
    rintro e w6 ⟨rfl, rfl⟩
    have hl5 : l5.length ≤ 8000000000 := by rw [E5.out, List.length_append]; show aa.length + 1 ≤ _; omega
    go_wp2_with (at_builtin; refine acc_app (p := 4) (q := sl) rfl rfl H5.out rfl rfl hl5 ?_; intro l6 A6 c6 w6 E6 H6)
    have HW : Hid (la = l6 ++ Sd.bD d T l) := by rw [HLA.out, HBL2.out, E6.out, E5.out]; exact hid (by simp)
    have HLn : Hid (l6.length + 4 * l ≤ aa.length + 4 * l + 2) := by rw [E6.out, E5.out]; exact hid (by simp; omega)
    go_loopw [8, 10] (fun vo i wr => ∃ (q : Nat) (lq : List Mc.Act) (Aq : Option Addr) (cq : Nat), q ≤ l ∧ i = .int .i64 ((q : Int) - 1) ∧ vo = .slice Aq lq.length cq ∧ Hid (Acc w (.slice A2 n c2) T (.slice Aq lq.length cq) lq wr) ∧ Hid (la = lq ++ Sd.bD d T q) ∧ Hid (lq.length + 4 * q ≤ aa.length + 4 * l + 2)) (fun _ i _ => (intOf i + 1).toNat)
    case atStart => exact ⟨l, l6, A6, c6, by omega, rfl, rfl, H6, HW, HLn⟩
    case round =>
      obtain ⟨q, lq, Aq, cq, hq, rfl, rfl, HAq, HWq, HLq⟩ := hrel
      cases q with
      | zero =>
        have HW0 : Hid (la = lq) := by rw [HWq.out, HD0.out, List.append_nil]; exact hid rfl
        have d1 : decide (0 ≤ ((0 : Nat) : Int) - 1) = false := by decide
        go_wp2_with fail
        go_ret2
        exact ⟨Aq, cq, by rw [HW0.out]; rfl, by rw [HW0.out]; exact HAq.out.own, HAq.out.kw⟩
      | succ i =>
        have ei : (((i + 1 : Nat) : Int) - 1) = (i : Int) := by omega
        rw [ei]
        have hmi := Int.emod_nonneg (i : Int) (show d ≠ 0 by omega)
        have hmi2 := Int.emod_lt_of_pos (i : Int) (show 0 < d by omega)
        have hli : lq.length ≤ 7999999990 := by have := HLq.out; omega
        have L5 : (i : Int) < 65536 := by omega
        have HD1 := hid (HDs.out i)
        clear ei
        by_cases c1 : (i : Int) % d = 0
        · have HRi := hid (HR0.out i c1)
          have HSi := hid (fun W (h : Tgo W w.heap.size (.slice A2 n c2) T) => HSB.out i W h)
          have e1 : ((i : Int) == (i : Int)) = true := by simp
          generalize Sd.slot T i = s at *
          go_wp2_with fail
          refine (HSi.out _ HAq.out.tg).mono ?_
          rintro e w6 ⟨rfl, rfl⟩
          go_wp2_with (first
            | (at_builtin; refine acc_app (p := 3) (q := s) rfl rfl HAq.out rfl rfl (Nat.le_trans hli (by decide)) ?_; intro l8 A8 c8 w8 E8 H8; have hl8 : l8.length ≤ 7999999991 := (by rw [E8.out, List.length_append]; show lq.length + 1 ≤ _; omega))
            | (at_builtin; refine acc_app (p := 7) (q := 0) rfl rfl H8.out rfl rfl (Nat.le_trans hl8 (by decide)) ?_; intro l9 A9 c9 w9 E9 H9; have hl9 : l9.length ≤ 7999999992 := (by rw [E9.out, List.length_append]; show l8.length + 1 ≤ _; omega)))
          refine (HSi.out _ H9.out.tg).mono ?_
          rintro e w7 ⟨rfl, rfl⟩
          go_wp2_with (at_builtin; refine acc_app (p := 4) (q := s) rfl rfl H9.out rfl rfl (Nat.le_trans hl9 (by decide)) ?_; intro l7 A7 c7 w7 E7 H7)
          have HW7 : Hid (la = l7 ++ Sd.bD d T i) := by rw [HWq.out, HD1.out, HRi.out, E7.out, E9.out, E8.out]; exact hid (by simp)
          have HL7 : Hid (l7.length + 4 * i ≤ aa.length + 4 * l + 2) := by
            have := HLq.out
            rw [E7.out, E9.out, E8.out]
            exact hid (by simp only [List.length_append, List.length_cons, List.length_nil]; omega)
          go_roundw
          case rel => exact ⟨i, l7, A7, c7, by omega, rfl, rfl, H7, HW7, HL7⟩
          case measure => simp [intOf]
        · skip
          have cp : 0 < (i : Int) % d := by omega
          have HRi := hid (HR1.out i cp)
          have HSi := hid (fun W (h : Tgo W w.heap.size (.slice A2 n c2) T) => HSB.out ((i : Int) - i % d) W h)
          have f1 : decide ((i : Int) - i % d < i) = true := decide_eq_true (by omega)
          have f2 : ((i : Int) == (i : Int) - i % d) = false := by simp; omega
          have f3 : (i : Int) - i % d < i := by omega
          have f4 : 0 ≤ (i : Int) - i % d := by
            have e := Int.emod_add_mul_ediv (i : Int) d
            have g : 0 ≤ d * ((i : Int) / d) := Int.mul_nonneg (by omega) (Int.ediv_nonneg (by omega) (by omega))
            omega
          have e3 : (i : Int) - ((i : Int) - i % d) = i % d := by omega
          rw [e3] at HRi
          generalize Sd.slot T ((i : Int) - i % d) = s at *
          clear c1
          go_wp2_with fail
          refine (HSi.out _ HAq.out.tg).mono ?_
          rintro e w6 ⟨rfl, rfl⟩
          go_wp2_with (first
            | (at_builtin; refine acc_app (p := 3) (q := s) rfl rfl HAq.out rfl rfl (Nat.le_trans hli (by decide)) ?_; intro l8 A8 c8 w8 E8 H8; have hl8 : l8.length ≤ 7999999991 := (by rw [E8.out, List.length_append]; show lq.length + 1 ≤ _; omega))
            | (at_builtin; refine acc_app (p := 1) (q := (i : Int) % d) rfl rfl H8.out rfl rfl (Nat.le_trans hl8 (by decide)) ?_; intro l9 A9 c9 w9 E9 H9; have hl9 : l9.length ≤ 7999999992 := (by rw [E9.out, List.length_append]; show l8.length + 1 ≤ _; omega))
            | (at_builtin; refine acc_app (p := 7) (q := 0) rfl rfl H9.out rfl rfl (Nat.le_trans hl9 (by decide)) ?_; intro l7 A7 c7 w7 E7 H7))
          have HW7 : Hid (la = l7 ++ Sd.bD d T i) := by rw [HWq.out, HD1.out, HRi.out, E7.out, E9.out, E8.out]; exact hid (by simp)
          have HL7 : Hid (l7.length + 4 * i ≤ aa.length + 4 * l + 2) := by
            have := HLq.out
            rw [E7.out, E9.out, E8.out]
            exact hid (by simp only [List.length_append, List.length_cons, List.length_nil]; omega)
          go_roundw
          case rel => exact ⟨i, l7, A7, c7, by omega, rfl, rfl, H7, HW7, HL7⟩
          case measure => simp [intOf]
  · have e0 : ((l : Int) % d == 0) = false := by simpa using c0
    have HBL2 : Hid (Sd.bL d T l = (5, 0) :: Sd.bD d T l) := by rw [HBL.out, if_neg c0]; rfl
    clear c0 HBL
    go_wp2_with (at_builtin; refine acc_app (p := 5) (q := 0) rfl rfl HAc.out rfl rfl hal2 ?_; intro l5 A5 c5 w5 E5 H5)
    have HW : Hid (la = l5 ++ Sd.bD d T l) := by rw [HLA.out, HBL2.out, E5.out]; exact hid (by simp)
    have HLn : Hid (l5.length + 4 * l ≤ aa.length + 4 * l + 2) := by rw [E5.out]; exact hid (by simp; omega)
    go_loopw [8, 10] (fun vo i wr => ∃ (q : Nat) (lq : List Mc.Act) (Aq : Option Addr) (cq : Nat), q ≤ l ∧ i = .int .i64 ((q : Int) - 1) ∧ vo = .slice Aq lq.length cq ∧ Hid (Acc w (.slice A2 n c2) T (.slice Aq lq.length cq) lq wr) ∧ Hid (la = lq ++ Sd.bD d T q) ∧ Hid (lq.length + 4 * q ≤ aa.length + 4 * l + 2)) (fun _ i _ => (intOf i + 1).toNat)
    case atStart => exact ⟨l, l5, A5, c5, by omega, rfl, rfl, H5, HW, HLn⟩
    case round =>
      obtain ⟨q, lq, Aq, cq, hq, rfl, rfl, HAq, HWq, HLq⟩ := hrel
      cases q with
      | zero =>
        have HW0 : Hid (la = lq) := by rw [HWq.out, HD0.out, List.append_nil]; exact hid rfl
        have d1 : decide (0 ≤ ((0 : Nat) : Int) - 1) = false := by decide
        go_wp2_with fail
        go_ret2
        exact ⟨Aq, cq, by rw [HW0.out]; rfl, by rw [HW0.out]; exact HAq.out.own, HAq.out.kw⟩
      | succ i =>
        have ei : (((i + 1 : Nat) : Int) - 1) = (i : Int) := by omega
        rw [ei]
        have hmi := Int.emod_nonneg (i : Int) (show d ≠ 0 by omega)
        have hmi2 := Int.emod_lt_of_pos (i : Int) (show 0 < d by omega)
        have hli : lq.length ≤ 7999999990 := by have := HLq.out; omega
        have L5 : (i : Int) < 65536 := by omega
        have HD1 := hid (HDs.out i)
        clear ei
        by_cases c1 : (i : Int) % d = 0
        · have HRi := hid (HR0.out i c1)
          have HSi := hid (fun W (h : Tgo W w.heap.size (.slice A2 n c2) T) => HSB.out i W h)
          have e1 : ((i : Int) == (i : Int)) = true := by simp
          generalize Sd.slot T i = s at *
          go_wp2_with fail
          refine (HSi.out _ HAq.out.tg).mono ?_
          rintro e w6 ⟨rfl, rfl⟩
          go_wp2_with (first
            | (at_builtin; refine acc_app (p := 3) (q := s) rfl rfl HAq.out rfl rfl (Nat.le_trans hli (by decide)) ?_; intro l8 A8 c8 w8 E8 H8; have hl8 : l8.length ≤ 7999999991 := (by rw [E8.out, List.length_append]; show lq.length + 1 ≤ _; omega))
            | (at_builtin; refine acc_app (p := 7) (q := 0) rfl rfl H8.out rfl rfl (Nat.le_trans hl8 (by decide)) ?_; intro l9 A9 c9 w9 E9 H9; have hl9 : l9.length ≤ 7999999992 := (by rw [E9.out, List.length_append]; show l8.length + 1 ≤ _; omega)))
          refine (HSi.out _ H9.out.tg).mono ?_
          rintro e w7 ⟨rfl, rfl⟩
          go_wp2_with (at_builtin; refine acc_app (p := 4) (q := s) rfl rfl H9.out rfl rfl (Nat.le_trans hl9 (by decide)) ?_; intro l7 A7 c7 w7 E7 H7)
          have HW7 : Hid (la = l7 ++ Sd.bD d T i) := by rw [HWq.out, HD1.out, HRi.out, E7.out, E9.out, E8.out]; exact hid (by simp)
          have HL7 : Hid (l7.length + 4 * i ≤ aa.length + 4 * l + 2) := by
            have := HLq.out
            rw [E7.out, E9.out, E8.out]
            exact hid (by simp only [List.length_append, List.length_cons, List.length_nil]; omega)
          go_roundw
          case rel => exact ⟨i, l7, A7, c7, by omega, rfl, rfl, H7, HW7, HL7⟩
          case measure => simp [intOf]
        · skip
          have cp : 0 < (i : Int) % d := by omega
          have HRi := hid (HR1.out i cp)
          have HSi := hid (fun W (h : Tgo W w.heap.size (.slice A2 n c2) T) => HSB.out ((i : Int) - i % d) W h)
          have f1 : decide ((i : Int) - i % d < i) = true := decide_eq_true (by omega)
          have f2 : ((i : Int) == (i : Int) - i % d) = false := by simp; omega
          have f3 : (i : Int) - i % d < i := by omega
          have f4 : 0 ≤ (i : Int) - i % d := by
            have e := Int.emod_add_mul_ediv (i : Int) d
            have g : 0 ≤ d * ((i : Int) / d) := Int.mul_nonneg (by omega) (Int.ediv_nonneg (by omega) (by omega))
            omega
          have e3 : (i : Int) - ((i : Int) - i % d) = i % d := by omega
          rw [e3] at HRi
          generalize Sd.slot T ((i : Int) - i % d) = s at *
          clear c1
          go_wp2_with fail
          refine (HSi.out _ HAq.out.tg).mono ?_
          rintro e w6 ⟨rfl, rfl⟩
          go_wp2_with (first
            | (at_builtin; refine acc_app (p := 3) (q := s) rfl rfl HAq.out rfl rfl (Nat.le_trans hli (by decide)) ?_; intro l8 A8 c8 w8 E8 H8; have hl8 : l8.length ≤ 7999999991 := (by rw [E8.out, List.length_append]; show lq.length + 1 ≤ _; omega))
            | (at_builtin; refine acc_app (p := 1) (q := (i : Int) % d) rfl rfl H8.out rfl rfl (Nat.le_trans hl8 (by decide)) ?_; intro l9 A9 c9 w9 E9 H9; have hl9 : l9.length ≤ 7999999992 := (by rw [E9.out, List.length_append]; show l8.length + 1 ≤ _; omega))
            | (at_builtin; refine acc_app (p := 7) (q := 0) rfl rfl H9.out rfl rfl (Nat.le_trans hl9 (by decide)) ?_; intro l7 A7 c7 w7 E7 H7))
          have HW7 : Hid (la = l7 ++ Sd.bD d T i) := by rw [HWq.out, HD1.out, HRi.out, E7.out, E9.out, E8.out]; exact hid (by simp)
          have HL7 : Hid (l7.length + 4 * i ≤ aa.length + 4 * l + 2) := by
            have := HLq.out
            rw [E7.out, E9.out, E8.out]
            exact hid (by simp only [List.length_append, List.length_cons, List.length_nil]; omega)
          go_roundw
          case rel => exact ⟨i, l7, A7, c7, by omega, rfl, rfl, H7, HW7, HL7⟩
          case measure => simp [intOf]
end Go.Proofs.Ytkdamcacmecnaaa
