/- An operation's words: contracts of opcode.Words and of the reference's. -/
import Derived.Test.YtnpgiallgcliiaaO2
namespace Go.Proofs.Ytnpgiallgcliiaa
open Go.ChangeShapes Go.WideShapes Go.ChangeAt Go.RowKit
set_option linter.unusedVariables false

theorem right_bd {k d a b v : Int} (h : Oc.right k d a b v = true) : (0 ≤ k ∧ k < 8) ∧ (∀ i, i < 3 → 0 ≤ nth3 d a b i ∧ nth3 d a b i ≤ 2147483647) ∧ (Oc.aV k = true ∨ v = 0) ∧ ∀ i, i < 3 → ask4 k i = false → nth3 d a b i = 0 := by
  unfold Oc.right at h
  simp only [Bool.and_eq_true] at h
  obtain ⟨⟨⟨⟨h0, h1⟩, h2⟩, h3⟩, h4⟩ := h
  have key : ∀ n x, Oc.rg n x = true → (0 ≤ n ∧ n ≤ 2147483647) ∧ (x = false → n = 0) := by
    intro n x hx
    unfold Oc.rg at hx
    cases x with
    | true => simp at hx; exact ⟨hx, fun h => by cases h⟩
    | false => simp at hx; exact ⟨by omega, fun _ => hx⟩
  refine ⟨of_decide_eq_true h0, fun i hi => ?_, by simpa using h4, fun i hi => ?_⟩
  · rcases (show i = 0 ∨ i = 1 ∨ i = 2 by omega) with rfl | rfl | rfl
    · exact (key _ _ h1).1
    · exact (key _ _ h2).1
    · exact (key _ _ h3).1
  · rcases (show i = 0 ∨ i = 1 ∨ i = 2 by omega) with rfl | rfl | rfl
    · exact (key _ _ h1).2
    · exact (key _ _ h2).2
    · exact (key _ _ h3).2

namespace Oc
/-- the words of a kind and of the first j registers -/
def pw (k d a b : Int) : Nat → List Int
  | 0 => [k]
  | j + 1 => if ask4 k j = true then pw k d a b j ++ [nth3 d a b j] else pw k d a b j
def wl (k d a b v : Int) : List Int := if aV k = true then pw k d a b 3 ++ [v] else pw k d a b 3
theorem pw_len (k d a b : Int) : ∀ j, (pw k d a b j).length ≤ j + 1 := by
  intro j
  induction j with
  | zero => simp [pw]
  | succ j ih => unfold pw; split <;> (try simp only [List.length_append, List.length_cons, List.length_nil]) <;> omega
end Oc
theorem u64s_app (l : List Int) (x : Int) : u64s (l ++ [x]) = u64s l ++ [.int .u64 x] := by simp [u64s]
theorem sliceU64 : SliceOf Try.prog 25 22 (.int .u64 0) 8 := ⟨Try.underlying25, by kernel_rfl, rfl⟩
theorem i3_0 (x y z : Int) (W : World) : (Instr.index 72 (.agg #[.int .i64 x, .int .i64 y, .int .i64 z]) (.int .i64 0)).run Try.prog W = .ok (.int .i64 x) W := by kernel_rfl
theorem b3_0 (x y z : Bool) (W : World) : (Instr.index 73 (.agg #[.bool x, .bool y, .bool z]) (.int .i64 0)).run Try.prog W = .ok (.bool x) W := by kernel_rfl
theorem i3_1 (x y z : Int) (W : World) : (Instr.index 72 (.agg #[.int .i64 x, .int .i64 y, .int .i64 z]) (.int .i64 1)).run Try.prog W = .ok (.int .i64 y) W := by kernel_rfl
theorem b3_1 (x y z : Bool) (W : World) : (Instr.index 73 (.agg #[.bool x, .bool y, .bool z]) (.int .i64 1)).run Try.prog W = .ok (.bool y) W := by kernel_rfl
theorem i3_2 (x y z : Int) (W : World) : (Instr.index 72 (.agg #[.int .i64 x, .int .i64 y, .int .i64 z]) (.int .i64 2)).run Try.prog W = .ok (.int .i64 z) W := by kernel_rfl
theorem b3_2 (x y z : Bool) (W : World) : (Instr.index 73 (.agg #[.bool x, .bool y, .bool z]) (.int .i64 2)).run Try.prog W = .ok (.bool z) W := by kernel_rfl
def WordsP (w : World) (l : List Int) (e : Ending) (w' : World) : Prop := ∃ u, e = .returned (.tuple #[u, .int .i64 0]) ∧ Owns w' w.heap.size 22 u (u64s l) ∧ KW w w'

theorem owords_no (k d a b v : Int) (w : World) (h : Oc.right k d a b v = false) :
    Calls Try.prog 14 #[.agg (opv k d a b v)] w fun e w' => e = .returned (.tuple #[.slice none 0 0, .int .i64 6]) ∧ KW w w' := by
  have HR := hid (fun W => oright_any k d a b v W)
  rw [h] at HR
  have hk := (KW.refl w).alloc (.cells (opv k d a b v) 24)
  unfold opv at *
  clear h
  go_enter Try.func14, Try.ntmps14
  go_wp2_with fail
  refine (HR.out _).mono ?_
  rintro e w1 ⟨rfl, hb⟩
  go_wp2_with fail
  go_ret2
  exact ⟨rfl, hk.t hb⟩
theorem rwords_no (k d a b v : Int) (w : World) (h : Oc.right k d a b v = false) :
    Calls Try.prog 15 #[.agg (opv k d a b v)] w fun e w' => e = .returned (.tuple #[.slice none 0 0, .int .i64 6]) ∧ KW w w' := by
  have HR := hid (fun W => rright07_any k d a b v W)
  rw [h] at HR
  have hk := (KW.refl w).alloc (.cells (opv k d a b v) 24)
  unfold opv at *
  clear h
  go_enter Try.func15, Try.ntmps15
  go_wp2_with fail
  refine (HR.out _).mono ?_
  rintro e w1 ⟨rfl, hb⟩
  go_wp2_with fail
  go_ret2
  exact ⟨rfl, hk.t hb⟩

set_option maxRecDepth 100000 in
set_option maxHeartbeats 2000000 in
theorem owords_yes (k d a b v : Int) (w : World) (h : Oc.right k d a b v = true) (hv : 0 ≤ v ∧ v ≤ 18446744073709551615) :
    Calls Try.prog 14 #[.agg (opv k d a b v)] w (WordsP w (Oc.wl k d a b v)) := by
  have HR := hid (fun W => oright_any k d a b v W)
  rw [h] at HR
  have HB := hid (right_bd h)
  have HO := hid (fun W => of_any k W)
  have HX : Hid (∀ i, i < 4 → (akv k)[i]? = some (.bool (ask4 k i))) := by
    intro i hi
    rcases (show i = 0 ∨ i = 1 ∨ i = 2 ∨ i = 3 by omega) with rfl | rfl | rfl | rfl <;> rfl
  have HP0 := hid (show [k] = Oc.pw k d a b 0 from rfl)
  have HPs := hid (fun j (hj : ask4 k j = true) => (show Oc.pw k d a b j ++ [nth3 d a b j] = Oc.pw k d a b (j + 1) from by
    show _ = (if ask4 k j = true then _ else _)
    rw [if_pos hj]))
  have HPn := hid (fun j (hj : ask4 k j = false) => (show Oc.pw k d a b j = Oc.pw k d a b (j + 1) from by
    show _ = (if ask4 k j = true then _ else _)
    rw [hj]; rfl))
  have HPl := hid (Oc.pw_len k d a b)
  have HW := hid (show Oc.wl k d a b v = if ask4 k 3 = true then Oc.pw k d a b 3 ++ [v] else Oc.pw k d a b 3 from rfl)
  have hd : 0 ≤ d ∧ d ≤ 2147483647 := HB.out.2.1 0 (by omega)
  have ha : 0 ≤ a ∧ a ≤ 2147483647 := HB.out.2.1 1 (by omega)
  have hb' : 0 ≤ b ∧ b ≤ 2147483647 := HB.out.2.1 2 (by omega)
  obtain ⟨d0, d1⟩ := hd
  obtain ⟨a0, a1⟩ := ha
  obtain ⟨b0, b1⟩ := hb'
  obtain ⟨v0, v1⟩ := hv
  obtain ⟨k0, k1⟩ := HB.out.1
  have E0 := hid (show Oc.aD k = ask4 k 0 from rfl)
  have E1 := hid (show Oc.aA k = ask4 k 1 from rfl)
  have E2 := hid (show Oc.aB k = ask4 k 2 from rfl)
  have E3 := hid (show Oc.aV k = ask4 k 3 from rfl)
  unfold akv at HO HX
  rw [E0.out, E1.out, E2.out, E3.out] at HO HX
  have N0 := hid (show nth3 d a b 0 = d from rfl)
  have N1 := hid (show nth3 d a b 1 = a from rfl)
  have N2 := hid (show nth3 d a b 2 = b from rfl)
  generalize Oc.wl k d a b v = out at *
  generalize Oc.pw k d a b = pw at *
  generalize nth3 d a b = nn at *
  generalize ask4 k = ask at *
  clear h HB E0 E1 E2 E3
  unfold opv at *
  have hk := (KW.refl w).alloc (.cells #[.int .i64 k, .int .i64 d, .int .i64 a, .int .i64 b, .int .u64 v] 24)
  have HOp : Hid ((w.alloc (.cells #[.int .i64 k, .int .i64 d, .int .i64 a, .int .i64 b, .int .u64 v] 24)).rowIs w.heap.size 24 5 (fun i => [.int .i64 k, .int .i64 d, .int .i64 a, .int .i64 b, .int .u64 v].getD i undef)) := World.rowIs_alloc w #[.int .i64 k, .int .i64 d, .int .i64 a, .int .i64 b, .int .u64 v] 24 _ fun i hi => by simp at hi; simp [hi]
  go_enter Try.func14, Try.ntmps14
  go_wp2_with fail
  refine (HR.out _).mono ?_
  rintro e w1 ⟨rfl, hb⟩
  have HOp1 := hid (KW.row hb (by simp) HOp.out)
  have HK := hid (hk.t hb)
  have c0 := HOp1.out.cell (i := 0) (by omega)
  simp only [List.getD_cons_zero] at c0
  clear hb hk HOp
  go_wp2_with fail
  refine (HO.out _).mono ?_
  rintro e w2 ⟨rfl, hb⟩
  have HOp2 := hid (KW.row hb HOp1.out.lt HOp1.out)
  have HK2 := hid (HK.out.t hb)
  clear hb HOp1 HK c0
  have c0 := HOp2.out.cell (i := 0) (by omega)
  have c1 := HOp2.out.cell (i := 1) (by omega)
  have c2 := HOp2.out.cell (i := 2) (by omega)
  have c3 := HOp2.out.cell (i := 3) (by omega)
  simp only [List.getD_cons_succ, List.getD_cons_zero] at c0 c1 c2 c3
  have hlt := HOp2.out.lt
  go_wp2_with fail
  refine wpCode_world (fun W => KW w W ∧ w2.heap.size + 1 < W.heap.size ∧ w.heap.size < w2.heap.size ∧ W.rowIs w2.heap.size 70 4 (fun i => .bool (ask i)) ∧ W.rowIs w.heap.size 24 5 (fun i => [.int .i64 k, .int .i64 d, .int .i64 a, .int .i64 b, .int .u64 v].getD i undef) ∧ Owns W (w2.heap.size + 1) 22 (.slice (some ⟨w2.heap.size + 1, 0, none⟩) 1 1) (u64s (pw 0))) ⟨(HK2.out.alloc _).alloc _, by simp, hlt, ?_, (HOp2.out.alloc _).alloc _, ?_⟩ ?_
  · exact (World.rowIs_alloc w2 #[.bool (ask 0), .bool (ask 1), .bool (ask 2), .bool (ask 3)] 70 (fun i => .bool (ask i)) HX.out).alloc _
  · rw [← HP0.out]
    have h := Owns.new (w := w2.alloc (.cells #[.bool (ask 0), .bool (ask 1), .bool (ask 2), .bool (ask 3)] 70)) (base := w2.heap.size + 1) (e := 22) (xs := [.int .u64 k]) (by simp) (by simp)
    simpa [u64s] using h
  rintro W1 ⟨hk, hk2, hk3, hx, hop, ho⟩
  have HKw := hid hk
  have HGs := hid hk2
  have HGw := hid hk3
  have HXr := hid hx
  have HOpr := hid hop
  have HOw := hid ho
  generalize hg : w2.heap.size = g at *
  have HG := hid hg
  clear hk hk2 hk3 hx hop ho c0 c1 c2 c3 hlt HX HOp2 HK2 hg
  go_loopw [5, 6, 7, 25] (fun u _ _ i wr => ∃ j : Nat, j ≤ 3 ∧ i = .int .i64 j ∧ Hid (Owns wr (g + 1) 22 u (u64s (pw j))) ∧ Hid (Below (g + 1) W1 wr)) (fun _ _ _ i _ => 3 - (intOf i).toNat)
  case atStart => exact ⟨0, by omega, rfl, HOw, Below.refl _ _⟩
  case round =>
    obtain ⟨j, hj, rfl, HO1, HK1⟩ := hrel
    clear HOw
    have HXw := hid (HXr.out.of_block (HK1.out.block g (Nat.lt_succ_self g)))
    have HKz : Hid (KW w wr) := Below.trans (show Below w.heap.size w W1 from HKw.out) (HK1.out.mono (Nat.le_succ_of_le (Nat.le_of_lt HGw.out)))
    have x0 := HXw.out.cell (i := 0) (by omega)
    have x1 := HXw.out.cell (i := 1) (by omega)
    have x2 := HXw.out.cell (i := 2) (by omega)
    have x3 := HXw.out.cell (i := 3) (by omega)
    have HGW := hid (show g + 1 ≤ wr.heap.size from Nat.le_trans (Nat.le_of_lt HGs.out) HK1.out.size)
    rcases (show j = 0 ∨ j = 1 ∨ j = 2 ∨ j = 3 by omega) with rfl | rfl | rfl | rfl
    · have hc : ((0 : Nat) : Int) = 0 := rfl
      rw [hc]
      have hi := i3_0
      have hb := b3_0
      cases hask : ask 0 with
      | false =>
        rw [hask] at x0
        have HS := hid (HPn.out 0 hask)
        clear hask hc
        go_wp2_with fail
        go_roundw
        case rel => exact ⟨0 + 1, by omega, by go_num, by rw [← HS.out]; exact HO1, HK1⟩
        case measure => simp [intOf]
      | true =>
        rw [hask] at x0
        have HS := hid (HPs.out 0 hask)
        rw [N0.out] at HS
        have HLn := hid (HPl.out 0)
        clear hask hc
        go_wp2_with (at_builtin; refine wpList_app1 rfl sliceU64 rfl (W := wr) (v := u5) (base := g + 1) (u := .int .u64 d) (xs := u64s (pw 0)) rfl rfl rfl HO1.out HGW.out (by rw [u64s_len]; have := HLn.out; omega) (by rw [u64s_len]; have := HLn.out; omega) ?_)
        intro u3 w3 hown hgrow
        have HO3 := hid hown
        rw [← u64s_app, HS.out] at HO3
        have HK3 : Hid (Below (g + 1) W1 w3) := HK1.out.trans hgrow
        clear hown hgrow
        go_wp2_with fail
        go_roundw
        case rel => exact ⟨0 + 1, by omega, by go_num, HO3, HK3⟩
        case measure => simp [intOf]
    · have hc : ((1 : Nat) : Int) = 1 := rfl
      rw [hc]
      have hi := i3_1
      have hb := b3_1
      cases hask : ask 1 with
      | false =>
        rw [hask] at x1
        have HS := hid (HPn.out 1 hask)
        clear hask hc
        go_wp2_with fail
        go_roundw
        case rel => exact ⟨1 + 1, by omega, by go_num, by rw [← HS.out]; exact HO1, HK1⟩
        case measure => simp [intOf]
      | true =>
        rw [hask] at x1
        have HS := hid (HPs.out 1 hask)
        rw [N1.out] at HS
        have HLn := hid (HPl.out 1)
        clear hask hc
        go_wp2_with (at_builtin; refine wpList_app1 rfl sliceU64 rfl (W := wr) (v := u5) (base := g + 1) (u := .int .u64 a) (xs := u64s (pw 1)) rfl rfl rfl HO1.out HGW.out (by rw [u64s_len]; have := HLn.out; omega) (by rw [u64s_len]; have := HLn.out; omega) ?_)
        intro u3 w3 hown hgrow
        have HO3 := hid hown
        rw [← u64s_app, HS.out] at HO3
        have HK3 : Hid (Below (g + 1) W1 w3) := HK1.out.trans hgrow
        clear hown hgrow
        go_wp2_with fail
        go_roundw
        case rel => exact ⟨1 + 1, by omega, by go_num, HO3, HK3⟩
        case measure => simp [intOf]
    · have hc : ((2 : Nat) : Int) = 2 := rfl
      rw [hc]
      have hi := i3_2
      have hb := b3_2
      cases hask : ask 2 with
      | false =>
        rw [hask] at x2
        have HS := hid (HPn.out 2 hask)
        clear hask hc
        go_wp2_with fail
        go_roundw
        case rel => exact ⟨2 + 1, by omega, by go_num, by rw [← HS.out]; exact HO1, HK1⟩
        case measure => simp [intOf]
      | true =>
        rw [hask] at x2
        have HS := hid (HPs.out 2 hask)
        rw [N2.out] at HS
        have HLn := hid (HPl.out 2)
        clear hask hc
        go_wp2_with (at_builtin; refine wpList_app1 rfl sliceU64 rfl (W := wr) (v := u5) (base := g + 1) (u := .int .u64 b) (xs := u64s (pw 2)) rfl rfl rfl HO1.out HGW.out (by rw [u64s_len]; have := HLn.out; omega) (by rw [u64s_len]; have := HLn.out; omega) ?_)
        intro u3 w3 hown hgrow
        have HO3 := hid hown
        rw [← u64s_app, HS.out] at HO3
        have HK3 : Hid (Below (g + 1) W1 w3) := HK1.out.trans hgrow
        clear hown hgrow
        go_wp2_with fail
        go_roundw
        case rel => exact ⟨2 + 1, by omega, by go_num, HO3, HK3⟩
        case measure => simp [intOf]
    · have hc : ((3 : Nat) : Int) = 3 := rfl
      rw [hc]
      have HOz := hid (HOpr.out.of_block (HK1.out.block w.heap.size (Nat.lt_succ_of_lt HGw.out)))
      have v4 := HOz.out.cell (i := 4) (by omega)
      simp only [List.getD_cons_succ, List.getD_cons_zero] at v4
      cases hask : ask 3 with
      | false =>
        rw [hask] at x3
        have HS := hid (HW.out.trans (by rw [hask]; rfl : _ = pw 3))
        clear hask hc
        go_wp2_with fail
        go_ret2
        exact ⟨_, rfl, by rw [HS.out]; exact HO1.out.base (Nat.le_succ_of_le (Nat.le_of_lt HGw.out)), HKz.out⟩
      | true =>
        rw [hask] at x3
        have HS := hid (HW.out.trans (by rw [hask]; rfl : _ = pw 3 ++ [v]))
        have HLn := hid (HPl.out 3)
        clear hask hc
        go_wp2_with (at_builtin; refine wpList_app1 rfl sliceU64 rfl (W := wr) (v := u5) (base := g + 1) (u := .int .u64 v) (xs := u64s (pw 3)) rfl rfl rfl HO1.out HGW.out (by rw [u64s_len]; have := HLn.out; omega) (by rw [u64s_len]; have := HLn.out; omega) ?_)
        intro u3 w3 hown hgrow
        have HO3 := hid hown
        rw [← u64s_app, ← HS.out] at HO3
        have HK3 : Hid (KW w w3) := Below.trans (show Below w.heap.size w wr from HKz.out) (hgrow.mono (Nat.le_succ_of_le (Nat.le_of_lt HGw.out)))
        clear hown hgrow
        go_wp2_with fail
        go_ret2
        exact ⟨_, rfl, HO3.out.base (Nat.le_succ_of_le (Nat.le_of_lt HGw.out)), HK3.out⟩
end Go.Proofs.Ytnpgiallgcliiaa
