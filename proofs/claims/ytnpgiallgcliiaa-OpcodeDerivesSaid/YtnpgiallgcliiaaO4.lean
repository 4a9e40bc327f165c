/- The reference's Words. -/
import Derived.Test.YtnpgiallgcliiaaO3
namespace Go.Proofs.Ytnpgiallgcliiaa
open Go.ChangeShapes Go.WideShapes Go.ChangeAt Go.RowKit
set_option linter.unusedVariables false

def nth4 (d a b v : Int) (i : Nat) : Int := if i = 3 then v else nth3 d a b i
set_option maxRecDepth 100000 in
set_option maxHeartbeats 2000000 in
theorem rwords_yes (k d a b v : Int) (w : World) (h : Oc.right k d a b v = true) (hv : 0 ≤ v ∧ v ≤ 18446744073709551615) :
    Calls Try.prog 15 #[.agg (opv k d a b v)] w (WordsP w (Oc.wl k d a b v)) := by
  have HR := hid (fun W => rright07_any k d a b v W)
  rw [h] at HR
  have HB := hid (right_bd h)
  have HO := hid (fun W => asks_any k W)
  have HX : Hid (∀ i, i < 4 → (akv k)[i]? = some (.bool (ask4 k i))) := by
    intro i hi
    rcases (show i = 0 ∨ i = 1 ∨ i = 2 ∨ i = 3 by omega) with rfl | rfl | rfl | rfl <;> rfl
  have HP0 := hid (show [k] = Oc.pw k d a b 0 from rfl)
  have HPs := hid (fun j (hj3 : j < 4) (hj : ask4 k j = true) => (show (if j = 3 then Oc.wl k d a b v else Oc.pw k d a b (j + 1)) = Oc.pw k d a b j ++ [nth4 d a b v j] from by
    by_cases e : j = 3
    · subst e
      rw [if_pos rfl]
      unfold Oc.wl
      rw [if_pos (show Oc.aV k = true from hj)]; rfl
    · rw [if_neg e]
      show (if ask4 k j = true then _ else _) = _
      rw [if_pos hj]
      unfold nth4
      rw [if_neg e]))
  have HPn := hid (fun j (hj3 : j < 4) (hj : ask4 k j = false) => (show (if j = 3 then Oc.wl k d a b v else Oc.pw k d a b (j + 1)) = Oc.pw k d a b j from by
    by_cases e : j = 3
    · subst e
      rw [if_pos rfl]
      unfold Oc.wl
      have : Oc.aV k = false := hj
      rw [this]; rfl
    · rw [if_neg e]
      show (if ask4 k j = true then _ else _) = _
      rw [hj]; rfl))
  have HPl : Hid (∀ j, j ≤ 4 → (if j = 4 then Oc.wl k d a b v else Oc.pw k d a b j).length ≤ 5) := by
    intro j hj
    have h3 := Oc.pw_len k d a b 3
    have hj' := Oc.pw_len k d a b j
    by_cases e : j = 4
    · rw [if_pos e]
      unfold Oc.wl
      split
      · simp; omega
      · omega
    · rw [if_neg e]; omega
  have hd : 0 ≤ d ∧ d ≤ 2147483647 := HB.out.2.1 0 (by omega)
  have ha : 0 ≤ a ∧ a ≤ 2147483647 := HB.out.2.1 1 (by omega)
  have hb' : 0 ≤ b ∧ b ≤ 2147483647 := HB.out.2.1 2 (by omega)
  obtain ⟨d0, d1⟩ := hd
  obtain ⟨a0, a1⟩ := ha
  obtain ⟨b0, b1⟩ := hb'
  obtain ⟨k0, k1⟩ := HB.out.1
  have E0 := hid (show Oc.aD k = ask4 k 0 from rfl)
  have E1 := hid (show Oc.aA k = ask4 k 1 from rfl)
  have E2 := hid (show Oc.aB k = ask4 k 2 from rfl)
  have E3 := hid (show Oc.aV k = ask4 k 3 from rfl)
  unfold akv at HO HX
  rw [E0.out, E1.out, E2.out, E3.out] at HO HX
  have HN : Hid (∀ i, i < 4 → (#[Value.int .u64 d, .int .u64 a, .int .u64 b, .int .u64 v] : Array Value)[i]? = some (.int .u64 (nth4 d a b v i))) := by
    intro i hi
    rcases (show i = 0 ∨ i = 1 ∨ i = 2 ∨ i = 3 by omega) with rfl | rfl | rfl | rfl <;> rfl
  have Hpp : ∃ pp : Nat → List Int, ∀ j, pp j = if j = 4 then Oc.wl k d a b v else Oc.pw k d a b j := ⟨_, fun j => rfl⟩
  obtain ⟨pp, hpp⟩ := Hpp
  have HP0' : Hid ([k] = pp 0) := by rw [hpp]; exact HP0
  have HPs' : Hid (∀ j, j < 4 → ask4 k j = true → pp (j + 1) = pp j ++ [nth4 d a b v j]) := by
    intro j hj h
    have := HPs.out j hj h
    rw [hpp, hpp, if_neg (show ¬ j = 4 by omega), ← this]
    by_cases e : j = 3
    · subst e; rfl
    · rw [if_neg e, if_neg (by omega)]
  have HPn' : Hid (∀ j, j < 4 → ask4 k j = false → pp (j + 1) = pp j) := by
    intro j hj h
    have := HPn.out j hj h
    rw [hpp, hpp, if_neg (show ¬ j = 4 by omega), ← this]
    by_cases e : j = 3
    · subst e; rfl
    · rw [if_neg e, if_neg (by omega)]
  have HPl' : Hid (∀ j, j ≤ 4 → (pp j).length ≤ 5) := by
    intro j hj
    rw [hpp]; exact HPl.out j hj
  have HW : Hid (Oc.wl k d a b v = pp 4) := by rw [hpp]; rfl
  clear HP0 HPs HPn HPl hpp
  generalize Oc.wl k d a b v = out at *
  generalize nth4 d a b v = nn at *
  generalize ask4 k = ask at *
  clear h HB E0 E1 E2 E3
  obtain ⟨v0, v1⟩ := hv
  unfold opv at *
  have hk := (KW.refl w).alloc (.cells #[.int .i64 k, .int .i64 d, .int .i64 a, .int .i64 b, .int .u64 v] 24)
  have HOp : Hid ((w.alloc (.cells #[.int .i64 k, .int .i64 d, .int .i64 a, .int .i64 b, .int .u64 v] 24)).rowIs w.heap.size 24 5 (fun i => [.int .i64 k, .int .i64 d, .int .i64 a, .int .i64 b, .int .u64 v].getD i undef)) := World.rowIs_alloc w #[.int .i64 k, .int .i64 d, .int .i64 a, .int .i64 b, .int .u64 v] 24 _ fun i hi => by simp at hi; simp [hi]
  go_enter Try.func15, Try.ntmps15
  go_wp2_with fail
  refine (HR.out _).mono ?_
  rintro e w1 ⟨rfl, hb⟩
  have HOp1 := hid (KW.row hb (by simp) HOp.out)
  have HK := hid (hk.t hb)
  have c0 := HOp1.out.cell (i := 0) (by omega)
  simp only [List.getD_cons_zero] at c0
  clear hb hk HOp
  go_wp2_with fail
  refine (HO.out _).mono ?_
  rintro e w2 ⟨rfl, hb⟩
  have HOp2 := hid (KW.row hb HOp1.out.lt HOp1.out)
  have HK2 := hid (HK.out.t hb)
  clear hb HOp1 HK c0
  have c0 := HOp2.out.cell (i := 0) (by omega)
  have c1 := HOp2.out.cell (i := 1) (by omega)
  have c2 := HOp2.out.cell (i := 2) (by omega)
  have c3 := HOp2.out.cell (i := 3) (by omega)
  have c4 := HOp2.out.cell (i := 4) (by omega)
  simp only [List.getD_cons_succ, List.getD_cons_zero] at c0 c1 c2 c3 c4
  have hlt := HOp2.out.lt
  have hne : w.heap.size < w2.heap.size + 1 := by omega
  go_wp2_with fail
  refine wpCode_world (fun W => KW w W ∧ w2.heap.size + 2 < W.heap.size ∧ w.heap.size < w2.heap.size ∧ W.rowIs w2.heap.size 53 4 (fun i => .bool (ask i)) ∧ W.rowIs (w2.heap.size + 1) 74 4 (fun i => .int .u64 (nn i)) ∧ Owns W (w2.heap.size + 2) 22 (.slice (some ⟨w2.heap.size + 2, 0, none⟩) 1 1) (u64s (pp 0))) ⟨((HK2.out.alloc _).alloc _).alloc _, by simp, hlt, ?_, ?_, ?_⟩ ?_
  · exact ((World.rowIs_alloc w2 #[.bool (ask 0), .bool (ask 1), .bool (ask 2), .bool (ask 3)] 53 (fun i => .bool (ask i)) HX.out).alloc _).alloc _
  · have h := (World.rowIs_alloc (w2.alloc (.cells #[.bool (ask 0), .bool (ask 1), .bool (ask 2), .bool (ask 3)] 53)) #[.int .u64 d, .int .u64 a, .int .u64 b, .int .u64 v] 74 (fun i => .int .u64 (nn i)) HN.out).alloc (.cells #[.int .u64 k] 22)
    simpa using h
  · rw [← HP0'.out]
    have h := Owns.new (w := (w2.alloc (.cells #[.bool (ask 0), .bool (ask 1), .bool (ask 2), .bool (ask 3)] 53)).alloc (.cells #[.int .u64 d, .int .u64 a, .int .u64 b, .int .u64 v] 74)) (base := w2.heap.size + 2) (e := 22) (xs := [.int .u64 k]) (by simp) (by simp)
    simpa [u64s] using h
  rintro W1 ⟨hk, hk2, hk3, hx, hn, ho⟩
  have HKw := hid hk
  have HGs := hid hk2
  have HGw := hid hk3
  have HXr := hid hx
  have HNr := hid hn
  have HOw := hid ho
  generalize hg : w2.heap.size = g at *
  clear hk hk2 hk3 hx hn ho c0 c1 c2 c3 c4 hlt hne HX HOp2 HK2 hg HN
  go_loopw [6, 7] (fun u i wr => ∃ j : Nat, j ≤ 4 ∧ i = .int .i64 j ∧ Hid (Owns wr (g + 2) 22 u (u64s (pp j))) ∧ Hid (Below (g + 2) W1 wr)) (fun _ i _ => 4 - (intOf i).toNat)
  case atStart => exact ⟨0, by omega, rfl, HOw, Below.refl _ _⟩
  case round =>
    obtain ⟨j, hj, rfl, HO1, HK1⟩ := hrel
    clear HOw
    have HXw := hid (HXr.out.of_block (HK1.out.block g (by omega)))
    have HNw := hid (HNr.out.of_block (HK1.out.block (g + 1) (by omega)))
    have HKz : Hid (KW w wr) := Below.trans (show Below w.heap.size w W1 from HKw.out) (HK1.out.mono (by have := HGw.out; omega))
    have HGW := hid (show g + 2 ≤ wr.heap.size from Nat.le_trans (Nat.le_of_lt HGs.out) HK1.out.size)
    by_cases hlt : j < 4
    · have x := HXw.out.cell (i := j) (by omega)
      have n := HNw.out.cell (i := j) (by omega)
      have L5 : (j : Int) < 4 := by omega
      cases hask : ask j with
      | false =>
        rw [hask] at x
        have HS := hid (HPn'.out j hlt hask)
        clear hask
        go_wp2_with fail
        go_roundw
        case rel => exact ⟨j + 1, by omega, by go_num, by rw [HS.out]; exact HO1, HK1⟩
        case measure => simp [intOf]; omega
      | true =>
        rw [hask] at x
        have HS := hid (HPs'.out j hlt hask)
        have HLn := hid (HPl'.out j (by omega))
        generalize nn j = z at *
        clear hask
        go_wp2_with (at_builtin; refine wpList_app1 rfl sliceU64 rfl (W := wr) (v := u6) (base := g + 2) (u := .int .u64 z) (xs := u64s (pp j)) rfl rfl rfl HO1.out HGW.out (by rw [u64s_len]; have := HLn.out; omega) (by rw [u64s_len]; have := HLn.out; omega) ?_)
        intro u3 w3 hown hgrow
        have HO3 := hid hown
        rw [← u64s_app, ← HS.out] at HO3
        have HK3 : Hid (Below (g + 2) W1 w3) := HK1.out.trans hgrow
        clear hown hgrow
        go_wp2_with fail
        go_roundw
        case rel => exact ⟨j + 1, by omega, by go_num, HO3, HK3⟩
        case measure => simp [intOf]; omega
    · obtain rfl : j = 4 := by omega
      clear hlt
      go_wp2_with fail
      go_ret2
      exact ⟨_, rfl, by rw [HW.out]; exact HO1.out.base (by have := HGw.out; omega), HKz.out⟩
end Go.Proofs.Ytnpgiallgcliiaa
