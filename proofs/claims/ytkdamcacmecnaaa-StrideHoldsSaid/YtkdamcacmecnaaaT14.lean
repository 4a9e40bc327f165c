/- The walk of StrideHolds. -/
import Derived.Test.YtkdamcacmecnaaaT9
import Derived.Test.YtkdamcacmecnaaaPlainV
import Derived.RegionTactic
namespace Go.Proofs.Ytkdamcacmecnaaa
open Go.ChangeShapes Go.WideShapes Go.ChangeAt Go.RowKit
set_option linter.unusedVariables false

theorem does_ok : ∀ {l : List Mc.Act} {m m' : Mc.St}, Mc.Does m l m' → ∀ {pre : List Mc.Act} {m0 : Mc.St}, Mc.up m0 (pre ++ l) pre.length = m → ∀ j, j < l.length → Mc.er m0 (pre ++ l) (pre.length + j) = 0
  | [], m, m', h, pre, m0, e, j, hj => by simp at hj
  | a :: l, m, m', ⟨h2, h3⟩, pre, m0, e, j, hj => by
    have e1 : pre ++ a :: l = (pre ++ [a]) ++ l := by simp
    cases j with
    | zero =>
      unfold Mc.er
      rw [Nat.add_zero, e]
      simpa using h2
    | succ j =>
      have e2 : Mc.up m0 (pre ++ a :: l) (pre.length + 1) = (Mc.step m a.1 a.2).1 := by
        rw [Mc.up_succ, e]
        simp
      have := does_ok h3 (pre := pre ++ [a]) (m0 := m0) (by rw [← e1]; simpa using e2) j (by simpa using hj)
      rw [← e1] at this
      rw [← this]
      congr 1
      simp only [List.length_append, List.length_cons, List.length_nil]
      omega
theorem does_okTo {l : List Mc.Act} {m m' : Mc.St} (h : Mc.Does m l m') : Mc.okTo m l l.length ∧ Mc.up m l l.length = m' := by
  refine ⟨fun j hj => ?_, ?_⟩
  · have := does_ok h (pre := []) (m0 := m) rfl j hj
    simpa using this
  · have := Mc.Does.up h (pre := []) (m0 := m) rfl
    simpa using this

set_option maxRecDepth 100000 in
theorem holds_goes (l s : Int) (w : World) (h : l < 0 ∨ 1000 < l ∨ s < 1 ∨ 100 < s) :
    Calls Try.prog 8 #[.int .i64 l, .int .i64 s] w fun e w' => e = .returned (.bool true) ∧ KW w w' := by
  have hk := KW.refl w
  by_cases h0 : l < 0
  · clear h
    go_enter Try.func8, Try.ntmps8
    go_wp2_with (go_at_call 26; refine (goes31_any _).mono ?_; rintro e w1 ⟨rfl, hb⟩; replace hk := hk.t hb; clear hb)
    go_ret
    exact ⟨rfl, hk⟩
  have d0 : decide (l < 0) = false := decide_eq_false h0
  by_cases h1 : 1000 < l
  · clear h
    go_enter Try.func8, Try.ntmps8
    go_wp2_with (go_at_call 26; refine (goes31_any _).mono ?_; rintro e w1 ⟨rfl, hb⟩; replace hk := hk.t hb; clear hb)
    go_ret
    exact ⟨rfl, hk⟩
  have d1 : decide (1000 < l) = false := decide_eq_false h1
  by_cases h2 : s < 1
  · clear h
    go_enter Try.func8, Try.ntmps8
    go_wp2_with (go_at_call 26; refine (goes31_any _).mono ?_; rintro e w1 ⟨rfl, hb⟩; replace hk := hk.t hb; clear hb)
    go_ret
    exact ⟨rfl, hk⟩
  have d2 : decide (s < 1) = false := decide_eq_false h2
  have h3 : 100 < s := by omega
  clear h
  go_enter Try.func8, Try.ntmps8
  go_wp2_with (go_at_call 26; refine (goes31_any _).mono ?_; rintro e w1 ⟨rfl, hb⟩; replace hk := hk.t hb; clear hb)
  go_ret
  exact ⟨rfl, hk⟩

set_option maxRecDepth 100000 in
set_option maxHeartbeats 4000000 in
theorem holds_main (k n : Nat) (w : World) (hk : k ≤ 1000) (hn : 1 ≤ n ∧ n ≤ 100) :
    Calls Try.prog 8 #[.int .i64 k, .int .i64 n] w fun e w' => e = .returned (.bool true) ∧ KW w w' := by
  have H1 := hid (fun W => stride_yes k n W (by omega) (by omega) (by omega) (by omega))
  have H2 := hid (fun W => ssahead_yes k n W (by omega) (by omega))
  have H3 := hid (fun W => new_yes k n W (by omega) (by omega) (by omega))
  have hdoes := Sd.does_ahead (L := (k : Int)) (n := n) (by omega) (by omega) k (by omega)
  obtain ⟨hok, hup⟩ := does_okTo hdoes
  have hlen : (Sd.aA n k).length ≤ 4296000000 := by rw [← Sd.aB_aA]; exact Sd.aB_b n (by omega)
  have hheld := Sd.aT_held (n := n) (k := k) (by omega) (by omega)
  have htl := Sd.aT_len n k
  have hd := Sd.sd_pos (k : Int) (n : Int)
  have hdle := Sd.sd_le (k := (k : Int)) (s := (n : Int)) (by omega) (by omega)
  have hgt := Sd.sd_gt (k := (k : Int)) (n := (n : Int)) (by omega) (by omega)
  have hev : Sd.sd k n = 1 ∨ (1 < Sd.sd k n ∧ Sd.sd k n % 2 = 0 ∧ (n : Int) * (Sd.sd k n / 2) ≤ k) := by
    by_cases h1 : Sd.jx k n = 0
    · left; unfold Sd.sd; rw [h1]; decide
    · right
      have h2 := (Sd.jx_is (k := (k : Int)) (s := (n : Int)) (by omega) (by omega)).2 (Sd.jx k n - 1) (by omega)
      have h3 := Sd.p2_succ (Sd.jx k n - 1)
      rw [show Sd.jx k n - 1 + 1 = Sd.jx k n by omega] at h3
      have h4 : Sd.sd k n = Sd.p2 (Sd.jx k n - 1) * 2 := h3
      have h5 := Sd.p2_pos (Sd.jx k n - 1)
      rw [h4]
      refine ⟨by omega, by omega, ?_⟩
      rw [show Sd.p2 (Sd.jx k n - 1) * 2 / 2 = Sd.p2 (Sd.jx k n - 1) by omega]
      exact h2
  have hcnt : (Mc.cnt (Sd.aT n k) : Int) = k / Sd.sd k n + 1 := by
    have h1 := hheld.cnt (k + 1) (fun t _ p => p.1)
    rw [h1, ← Sd.sum_mult _ hd k]
    refine Mc.sum_cong _ fun t ht => ?_
    by_cases z : (t : Int) % Sd.sd k n = 0
    · rw [if_pos z, if_pos ⟨by omega, z⟩]
    · rw [if_neg z, if_neg fun h => z h.2]
  have hmul := Sd.mul_b (a := (n : Int)) (b := Sd.sd k n) (x := 100) (y := 65536) (by omega) (by omega) (by omega) hdle
  have hmul2 := Sd.mul_b (a := (n : Int)) (b := Sd.sd k n / 2) (x := 100) (y := 65536) (by omega) (by omega) (by omega) (by omega)
  have HOK := hid hok
  have HI := hid (fun j => Mc.up_inv (Mc.new_inv (k : Int) n (by omega) (by omega) (by omega)) (Sd.aA n k) j)
  have HT := hid (fun j => (Mc.up_tot (Mc.new (k : Int) n) (Sd.aA n k) j).2)
  rw [show (Mc.new (k : Int) n).tot = 0 from rfl] at HT
  have HUp := hid hup
  have HH := hid hheld
  have HC := hid hcnt
  have HCt := hid (fun j h => Mc.cnt_take (Sd.aT n k) (k := j) h)
  have HCe := hid (show Mc.cnt ((Sd.aT n k).take (Sd.aT n k).length) = Mc.cnt (Sd.aT n k) from by rw [List.take_length])
  have HCb := hid (fun j => Nat.le_trans (Mc.cnt_le ((Sd.aT n k).take j)) (by rw [List.length_take]; omega) : ∀ j, Mc.cnt ((Sd.aT n k).take j) ≤ (Sd.aT n k).length)
  rw [htl] at HCe HCb
  unfold ActsP at H2
  unfold NewP at H3
  have HTL := hid htl
  have hmA : Hid (Sd.mA k n k = ⟨k, k, -1, k, Sd.aT n k⟩) := rfl
  rw [hmA.out] at HUp
  clear hok hup hheld hcnt hdoes htl hmA
  generalize Sd.aA n k = L at *
  generalize Sd.aT n k = T at *
  generalize Sd.sd k n = d at *
  generalize Mc.new (k : Int) n = m0 at *
  have d0 : decide ((k : Int) < 0) = false := decide_eq_false (by omega)
  have d1 : decide (1000 < (k : Int)) = false := decide_eq_false (by omega)
  have d2 : decide ((n : Int) < 1) = false := decide_eq_false (by omega)
  have d3 : decide (100 < (n : Int)) = false := decide_eq_false (by omega)
  have d4 : decide (d < 1) = false := decide_eq_false (by omega)
  have d5 : decide ((n : Int) * d ≤ (k : Int)) = false := decide_eq_false (by omega)
  have L1 : (k : Int) ≤ 1000 := by omega
  have L2 : (n : Int) ≤ 100 := by omega
  have HEV : Hid (d = 1) ∨ Hid (1 < d ∧ (d % 2 != 0) = false ∧ decide ((k : Int) < (n : Int) * (d / 2)) = false) := hev.imp id fun ⟨a, b, c⟩ => ⟨a, by rw [b]; rfl, decide_eq_false (by omega)⟩
  have HGt := hid hgt
  clear hev hgt
  rcases HEV with hE | hE
  all_goals
    first
      | (have g1 : decide (1 < d) = false := decide_eq_false (by have : d = 1 := hE.out; omega))
      | (have g1 := hE.out.1
         have g2 := hE.out.2.1
         have g3 := hE.out.2.2)
    clear hE
    go_enter Try.func8, Try.ntmps8
    go_wp2_with (go_at_call 22; refine (H1.out _).mono ?_; rintro e w3 ⟨rfl, rfl⟩)
    refine (H2.out _).mono ?_
    rintro e w1 ⟨A1, c1, rfl, ho1, hk1⟩
    obtain ⟨_, _, hv, hcc, ha1⟩ := ho1.slice
    cases hv
    have HA1 := hid ha1
    have HK1 := hid hk1
    clear ho1 ha1 hk1 H1 H2
    go_wp2_with fail
    refine (H3.out _).mono ?_
    rintro e w2 ⟨b, v, rfl, hm2, hb2, hk2⟩
    have HM2 := hid hm2
    have HA2 := hid (HA1.out.kw hk2)
    have HK2 := hid (HK1.out.t hk2)
    have HB2 : Hid (∀ i, mo b v i → w.heap.size ≤ i) := fun i hi => Nat.le_trans HK1.out.size (hb2 i hi)
    have HAn : Hid (∀ b' off, 0 < L.length → A1 = some ⟨b', off, none⟩ → ¬ mo b v b') := fun b' off h0 hA hm => by
      obtain ⟨b1, o1, h1, hlt, _⟩ := HA1.out h0
      rw [h1] at hA; cases hA
      have := hb2 _ hm
      omega
    clear hm2 hb2 hk2 H3
    go_wp2_with fail
    go_loopw [11] (fun i wr => ∃ j : Nat, j ≤ L.length ∧ i = .int .i64 j ∧ Hid (Mach wr b v (Mc.up m0 L j)) ∧ Hid (Acts wr A1 L) ∧ Hid (KW w wr)) (fun i _ => L.length - (intOf i).toNat)
    case atStart => exact ⟨0, by omega, rfl, HM2, HA2, HK2⟩
    case round =>
      obtain ⟨j, hj, rfl, HM, HA, HK⟩ := hrel
      clear HM2 HA2 HK2 HA1 HK1
      by_cases hlt : j < L.length
      · obtain ⟨b', off, rfl, hb', hc1, hc2⟩ := HA.out.at_ hlt
        have hT := HT.out j
        have HD : Hid (∀ W, Mach W b v (Mc.up m0 L j) → Calls Try.prog 31 #[.pointer (some ⟨b, 0, none⟩), .agg #[.int .i64 (L.getD j (0, 0)).1, .int .i64 (L.getD j (0, 0)).2]] W (Did W b v (Mc.up m0 L (j + 1)) (Mc.er m0 L j))) := fun W h => do_any _ (L.getD j (0, 0)).1 (L.getD j (0, 0)).2 b v W h (HI.out j) (by omega)
        rw [HOK.out j hlt] at HD
        generalize (L.getD j (0, 0)).1 = x at *
        generalize (L.getD j (0, 0)).2 = y at *
        have L5 : (j : Int) < (L.length : Int) := by omega
        have L6 : (j : Int) ≤ 4296000000 := by omega
        clear hT
        go_wp2_with fail
        refine (HD.out _ HM.out).mono ?_
        rintro e w4 ⟨rfl, hm4, hk4⟩
        have HM4 := hid hm4
        have HA4 := hid (show Acts w4 (some ⟨b', off, none⟩) L from by
          intro h0
          obtain ⟨b1, o1, h1, hl1, hc⟩ := HA.out h0
          cases h1
          have hnb := HAn.out b' off h0 rfl
          exact ⟨b', off, rfl, Nat.lt_of_lt_of_le hl1 hk4.size, fun q hq => ⟨(hk4.cell hl1 hnb).trans (hc q hq).1, (hk4.cell hl1 hnb).trans (hc q hq).2⟩⟩)
        have HK4 := hid (HK.out.kept hk4 HB2.out)
        clear hm4 hk4
        go_wp2_with fail
        go_roundw
        case rel => exact ⟨j + 1, by omega, by go_num, HM4, HA4, HK4⟩
        case measure => simp [intOf]; omega
      · obtain rfl : j = L.length := by omega
        rw [HUp.out] at HM
        have HSp := hid (spot_any ⟨k, k, -1, k, T⟩ b v wr HM.out (by show T.length ≤ 1048576; rw [HTL.out]; omega))
        have HTo := hid (fun W (h : Mach W b v ⟨k, k, -1, k, T⟩) => total_any _ b v W h)
        unfold SpotP at HSp
        clear hlt HOK HI HT HUp HA HAn
        go_wp2_with fail
        refine HSp.out.mono ?_
        rintro e w5 ⟨v2, rfl, ho5, hk5⟩
        have HM5 := hid (HM.out.kw hk5)
        have HK5 := hid (HK.out.t hk5)
        have hro := ho5.rt.rt0
        obtain ⟨A2, c2, hv2, hro2⟩ := hro
        rw [HTL.out] at hv2 hro2
        have HR5 := hid hro2
        subst hv2
        clear ho5 hk5 HSp
        have HG : Hid (∀ i, i < n → T.getD i 0 = -1 ∨ (0 ≤ T.getD i 0 ∧ T.getD i 0 < (k + 1 : Nat) ∧ T.getD i 0 % d = 0)) := fun i hi => HH.out.all i (by rw [HTL.out]; exact hi)
        have HO : Hid (∀ i j, i < n → j < n → T.getD i 0 = T.getD j 0 → 0 ≤ T.getD i 0 → i = j) := fun i j hi hj => HH.out.one i j (by rw [HTL.out]; exact hi) (by rw [HTL.out]; exact hj)
        have HCt' : Hid (∀ i, i < n → Mc.cnt (T.take (i + 1)) = Mc.cnt (T.take i) + (if 0 ≤ T.getD i 0 then 1 else 0)) := fun i hi => HCt.out i (by rw [HTL.out]; exact hi)
        clear HH HCt
        have HZ : Hid ((w5.alloc (.cells #[.int .i64 k, .int .i64 (-1), .slice A2 n c2] 53)).heap[w5.heap.size]? = some (.cells #[.int .i64 k, .int .i64 (-1), .slice A2 n c2] 53 (0, 0))) := heap_alloc_new w5 _
        have HR6 := hid (HR5.out.k ((KW.refl w5).alloc (.cells #[.int .i64 k, .int .i64 (-1), .slice A2 n c2] 53)))
        have HK6 := hid (HK5.out.alloc (.cells #[.int .i64 k, .int .i64 (-1), .slice A2 n c2] 53))
        have HM6 := hid (HM5.out.kw ((KW.refl w5).alloc (.cells #[.int .i64 k, .int .i64 (-1), .slice A2 n c2] 53)))
        have hC0 : Hid (Mc.cnt (T.take 0) = 0) := rfl
        generalize hct : (fun i => Mc.cnt (T.take i)) = ct at *
        have HCT := hid (fun i => (show Mc.cnt (T.take i) = ct i from by rw [← hct]))
        simp only [HCT.out] at HCt' HCe HCb hC0
        clear HCT hct
        go_wp2_with fail
        go_loopw [13, 14] (fun q i wr => ∃ j : Nat, j ≤ n ∧ i = .int .i64 j ∧ q = .int .i64 (ct j) ∧ Hid (wr.heap[w5.heap.size]? = some (.cells #[.int .i64 k, .int .i64 (-1), .slice A2 n c2] 53 (0, 0))) ∧ Hid (Row1 wr A2 n fun i => .int .i64 (T.getD i 0)) ∧ Hid (Mach wr b v ⟨k, k, -1, k, T⟩) ∧ Hid (KW w wr)) (fun _ i _ => n - (intOf i).toNat)
        case atStart => exact ⟨0, by omega, rfl, by rw [hC0.out]; rfl, HZ, HR6, HM6, HK6⟩
        case round =>
          obtain ⟨j, hj, rfl, rfl, HZ1, HR1, HM1, HK1⟩ := hrel
          have z0 : wr.cell? ⟨w5.heap.size, 0, none⟩ = some (.int .i64 k) := by rw [cell_of_row _ _ _ _ _ _ HZ1.out]; rfl
          have z1 : wr.cell? ⟨w5.heap.size, 1, none⟩ = some (.int .i64 (-1)) := by rw [cell_of_row _ _ _ _ _ _ HZ1.out]; rfl
          have z2 : wr.cell? ⟨w5.heap.size, 2, none⟩ = some (.slice A2 n c2) := by rw [cell_of_row _ _ _ _ _ _ HZ1.out]; rfl
          by_cases hlt : j < n
          · obtain ⟨q1, o1, rfl, hq1, hcj⟩ := HR1.out.at_ hlt
            have hb := HCb.out j
            have hb2 := HCb.out (j + 1)
            have hs := HCt'.out j hlt
            have L5 : (j : Int) < (n : Int) := by omega
            by_cases hx : 0 ≤ T.getD j 0
            · rw [if_pos hx] at hs
              have hg := (HG.out j hlt).resolve_left (by omega)
              have hs' : ((ct (j + 1) : Nat) : Int) = (ct j : Int) + 1 := by omega
              have HS := hid hs'
              have HNe : Hid (∀ q, q < j → (T.getD q 0 == T.getD j 0) = false) := fun q hq => by
                cases e : (T.getD q 0 == T.getD j 0)
                · rfl
                · have e' := eq_of_beq e
                  have := HO.out q j (by omega) hlt e' (by omega)
                  omega
              have L6 : ((ct j : Nat) : Int) ≤ 100 := by omega
              have HE : Hid ((T.getD j 0 % d != 0) = false) := by rw [hg.2.2]; exact hid rfl
              have L7 : T.getD j 0 ≤ 1000 := by omega
              clear hs hs' hb2 hg
              generalize T.getD j 0 = x at *
              have hm := Int.emod_nonneg x (show d ≠ 0 by omega)
              have hm2 := Int.emod_lt_of_pos x (show 0 < d by omega)
              have e3 := HE.out
              go_wp2_with fail
              go_loopw [15] (fun i wr => ∃ q : Nat, q ≤ j ∧ i = .int .i64 q ∧ Hid (wr.heap[w5.heap.size]? = some (.cells #[.int .i64 k, .int .i64 (-1), .slice (some ⟨q1, o1, none⟩) n c2] 53 (0, 0))) ∧ Hid (Row1 wr (some ⟨q1, o1, none⟩) n fun i => .int .i64 (T.getD i 0)) ∧ Hid (Mach wr b v ⟨k, k, -1, k, T⟩) ∧ Hid (KW w wr) ∧ Hid (wr.cell? ⟨q1, o1 + j, none⟩ = some (.int .i64 x))) (fun i _ => j - (intOf i).toNat)
              case atStart => exact ⟨0, by omega, rfl, HZ1, HR1, HM1, HK1, hcj⟩
              case round =>
                clear z0 z1 z2 hcj
                obtain ⟨q, hq, rfl, HZ2, HR2, HM2, HK2, HX2⟩ := hrel
                by_cases hlq : q < j
                · obtain ⟨q3, o3, hqq, _, hcq⟩ := HR2.out.at_ (show q < n by omega)
                  cases hqq
                  have e4 := HNe.out q hlq
                  have hcj := HX2.out
                  have L8 : (q : Int) < (j : Int) := by omega
                  have z2 : wr.cell? ⟨w5.heap.size, 2, none⟩ = some (.slice (some ⟨q1, o1, none⟩) n c2) := by rw [cell_of_row _ _ _ _ _ _ HZ2.out]; rfl
                  generalize T.getD q 0 = y at *
                  go_wp2_with fail
                  go_region
                  go_wp2_with fail
                  go_roundw
                  case rel => exact ⟨q + 1, by omega, by go_num, HZ2, HR2.out.k (KW.refl wr).drew, HM2.out.kw (KW.refl wr).drew, HK2.out.drew, hcj⟩
                  case measure => simp [intOf]; omega
                · obtain rfl : q = j := by omega
                  clear hlq
                  go_wp2_with fail
                  go_roundw
                  case rel => exact ⟨q + 1, by omega, by go_num, by rw [HS.out], HZ2, HR2, HM2, HK2⟩
                  case measure => simp [intOf]; omega
            · rw [if_neg hx] at hs
              have hs' : ct (j + 1) = ct j := by omega
              have HS := hid hs'
              have dx : decide (0 ≤ T.getD j 0) = false := decide_eq_false hx
              clear hs hs' hb2
              generalize T.getD j 0 = x at *
              go_wp2_with fail
              go_roundw
              case rel => exact ⟨j + 1, by omega, by go_num, by rw [HS.out], HZ1, HR1, HM1, HK1⟩
              case measure => simp [intOf]; omega
          · obtain rfl : j = n := by omega
            clear hlt
            have hk := HK1.out
            have hce := HCe.out
            have hc := HC.out
            have e7 : ((ct j : Nat) : Int) = (k : Int) / d + 1 := by rw [hce]; exact hc
            clear hce hc HCe HC HCt' HCb hC0
            generalize ((ct j : Nat) : Int) = cc at *
            subst e7
            have e8 : (((k : Int) / d + 1) == ((k : Int) / d + 1)) = true := by simp
            have hq0 := Int.ediv_nonneg (show 0 ≤ (k : Int) by omega) (show 0 ≤ d by omega)
            have hq2 : (k : Int) / d ≤ 1000 := Int.le_trans (Int.ediv_le_self _ (by omega)) (by omega)
            go_wp2_with (first
              | (go_at_call 33; refine (HTo.out _ HM1.out).mono ?_; rintro e w3 ⟨rfl, rfl⟩)
              | (go_at_call 26; refine (goes31_any _).mono ?_; rintro e w1 ⟨rfl, hb⟩; replace hk := hk.t hb; clear hb))
            go_ret
            exact ⟨rfl, hk⟩

theorem holds31_law (l s : Int) (w : World) (_ : -9223372036854775808 ≤ l) (_ : l ≤ 9223372036854775807) (_ : -9223372036854775808 ≤ s) (_ : s ≤ 9223372036854775807) :
    Calls Try.prog 8 #[.int .i64 l, .int .i64 s] w fun e w' => e = .returned (.bool true) ∧ KW w w' := by
  by_cases h : l < 0 ∨ 1000 < l ∨ s < 1 ∨ 100 < s
  · exact holds_goes l s w h
  · obtain ⟨L, rfl⟩ : ∃ L : Nat, l = L := ⟨l.toNat, by omega⟩
    obtain ⟨n, rfl⟩ : ∃ n : Nat, s = n := ⟨s.toNat, by omega⟩
    exact holds_main L n w (by omega) (by omega)
end Go.Proofs.Ytkdamcacmecnaaa
