/- Contract of the reference machine's New. -/
import Derived.Test.YtgadkelldbibgaaN1
namespace Go.Proofs.Ytgadkelldbibgaa
open Go.ChangeShapes Go.WideShapes Go.ChangeAt Go.RowKit
set_option linter.unusedVariables false

section
variable {P : Program}
theorem results_cell_tmp {fn : Func} {p q : Tmp} {ty : TypeId} (h : fn.results = #[.cell p ty, .tmp q]) (tmps : Array Value) (w : World) (g : Nat) (t : TypeId) (cs : Array Value) (fr : Nat × Nat) (d : TypeDesc)
    (hp : tmps.getD p undef = .pointer (some ⟨g, 0, none⟩)) (hg : w.heap[g]? = some (.cells cs t fr))
    (hu : P.underlying ty = some d) (hd : (match d with | .struct _ | .array _ _ => true | _ => false) = true) (hi : (P.info? ty).map (·.size) = some cs.size) :
    (results fn tmps).run P w = .ok (.tuple #[.agg cs, tmps.getD q undef]) w := by
  have hp' : tmps[p]?.getD undef = .pointer (some ⟨g, 0, none⟩) := by simpa using hp
  simp [results, h, hp', asAddr, run_loadVar_row w g t ty cs fr d hg hu hd hi]
end
/-- a reference machine, as a value -/
def rm (m : Mc.St) (v : Value) : Array Value := #[.int .i64 m.l, .int .i64 m.at_, .int .i64 m.pend, v, .int .i64 m.tot]
def RNewP (w : World) (m : Mc.St) (c : Int) (e : Ending) (w' : World) : Prop := ∃ v, e = .returned (.tuple #[.agg (rm m v), .int .i64 c]) ∧ Owns w' w.heap.size 3 v (ints m.tags) ∧ KW w w'
theorem rnew_no (l n : Int) (w : World) (h : l < 0 ∨ 65536 ≤ l ∨ n < 0 ∨ 1048576 < n) :
    Calls Try.prog 69 #[.int .i64 l, .int .i64 n] w fun e w' => e = .returned (.tuple #[.agg #[.int .i64 0, .int .i64 0, .int .i64 0, .slice none 0 0, .int .i64 0], .int .i64 2]) ∧ KW w w' := by
  by_cases h0 : l < 0
  · clear h
    go_enter Try.func69, Try.ntmps69
    go_wp2_with fail
    exact bodyPost_ret (results_cell_tmp rfl _ _ _ _ _ (0, 0) _ rfl (heap_alloc_new w _) Try.underlying76 rfl (by kernel_rfl)) rfl ⟨rfl, (KW.refl w).alloc _⟩
  have d0 : decide (l < 0) = false := decide_eq_false h0
  by_cases h1 : 65536 ≤ l
  · clear h
    go_enter Try.func69, Try.ntmps69
    go_wp2_with fail
    exact bodyPost_ret (results_cell_tmp rfl _ _ _ _ _ (0, 0) _ rfl (heap_alloc_new w _) Try.underlying76 rfl (by kernel_rfl)) rfl ⟨rfl, (KW.refl w).alloc _⟩
  have d1 : decide (65536 ≤ l) = false := decide_eq_false h1
  by_cases h2 : n < 0
  · clear h
    go_enter Try.func69, Try.ntmps69
    go_wp2_with fail
    exact bodyPost_ret (results_cell_tmp rfl _ _ _ _ _ (0, 0) _ rfl (heap_alloc_new w _) Try.underlying76 rfl (by kernel_rfl)) rfl ⟨rfl, (KW.refl w).alloc _⟩
  have d2 : decide (n < 0) = false := decide_eq_false h2
  have h3 : 1048576 < n := by omega
  clear h
  go_enter Try.func69, Try.ntmps69
  go_wp2_with fail
  exact bodyPost_ret (results_cell_tmp rfl _ _ _ _ _ (0, 0) _ rfl (heap_alloc_new w _) Try.underlying76 rfl (by kernel_rfl)) rfl ⟨rfl, (KW.refl w).alloc _⟩

set_option maxRecDepth 100000 in
set_option maxHeartbeats 1000000 in
theorem rnew_yes (l : Int) (n : Nat) (w : World) (l0 : 0 ≤ l) (l1 : l < 65536) (hn : n ≤ 1048576) :
    Calls Try.prog 69 #[.int .i64 l, .int .i64 n] w (RNewP w (Mc.new l n) 0) := by
  have d0 : decide (l < 0) = false := decide_eq_false (by omega)
  have d1 : decide (65536 ≤ l) = false := decide_eq_false (by omega)
  have d2 : decide (n < 0) = false := by simp
  have d2' : decide ((n : Int) < 0) = false := by simp
  have d3 : decide ((1048576 : Int) < (n : Int)) = false := decide_eq_false (by omega)
  go_enter Try.func69, Try.ntmps69
  go_wp2_with fail
  refine wpCode_world (fun W => KW w W ∧ w.heap.size + 2 ≤ W.heap.size ∧ W.rowIs w.heap.size 76 5 (fun i => [.int .i64 0, .int .i64 0, .int .i64 0, .slice none 0 0, .int .i64 0].getD i undef) ∧ W.rowIs (w.heap.size + 1) 76 5 (fun i => [.int .i64 l, .int .i64 0, .int .i64 (-1), .slice none 0 0, .int .i64 0].getD i undef)) ⟨?_, ?_, ?_, ?_⟩ ?_
  · exact ((KW.refl w).alloc _).alloc _
  · simp
  · exact (World.rowIs_alloc w #[.int .i64 0, .int .i64 0, .int .i64 0, .slice none 0 0, .int .i64 0] 76 _ fun i hi => by simp at hi; simp [hi]).alloc _
  · have h := World.rowIs_alloc (w.alloc (.cells #[.int .i64 0, .int .i64 0, .int .i64 0, .slice none 0 0, .int .i64 0] 76)) #[.int .i64 l, .int .i64 0, .int .i64 (-1), .slice none 0 0, .int .i64 0] 76 (fun i => [.int .i64 l, .int .i64 0, .int .i64 (-1), .slice none 0 0, .int .i64 0].getD i undef) fun i hi => by simp at hi; simp [hi]
    simpa using h
  rintro W1 ⟨hk, hs, h0, h1⟩
  have HK := hid hk
  have HS := hid hs
  have H0 := hid h0
  have H1 := hid h1
  clear hk hs h0 h1
  go_loopw [7] (fun i wr => ∃ (k : Nat) (vk : Value), k ≤ n ∧ i = .int .i64 k ∧ Hid (KW w wr) ∧ Hid (w.heap.size + 2 ≤ wr.heap.size) ∧ Hid (wr.rowIs w.heap.size 76 5 (fun i => [.int .i64 0, .int .i64 0, .int .i64 0, .slice none 0 0, .int .i64 0].getD i undef)) ∧ Hid (wr.rowIs (w.heap.size + 1) 76 5 (fun i => [.int .i64 l, .int .i64 0, .int .i64 (-1), vk, .int .i64 0].getD i undef)) ∧ Hid (Owns wr (w.heap.size + 2) 3 vk (ints (List.replicate k (-1))))) (fun i _ => n - (intOf i).toNat)
  case atStart => exact ⟨0, _, by omega, rfl, HK, HS, H0, H1, Owns.nil _ _ _⟩
  case round =>
    obtain ⟨k, vk, hk, rfl, HK1, HS1, H01, H11, HO1⟩ := hrel
    clear HK HS H0 H1 W1
    by_cases hlt : k < n
    · have c3 := H11.out.cell (i := 3) (by omega)
      simp only [List.getD_cons_succ, List.getD_cons_zero] at c3
      have Hsucc := hid (show ints (List.replicate (k + 1) (-1)) = ints (List.replicate k (-1)) ++ [.int .i64 (-1)] from by unfold ints; rw [List.replicate_succ', List.map_append]; rfl)
      have Hlen := hid (show (ints (List.replicate k (-1))).length = k from by rw [ints_len, List.length_replicate])
      have L5 : (k : Int) < (n : Int) := by omega
      go_wp2_with (at_builtin; refine wpList_app1 rfl sliceInt1 rfl (W := wr) (v := vk) (base := w.heap.size + 2) (u := .int .i64 (-1)) (xs := ints (List.replicate k (-1))) rfl rfl rfl HO1.out HS1.out (by rw [Hlen.out]; omega) (by rw [Hlen.out]; omega) ?_)
      intro v' w3 hown hgrow
      have HO3 := hid hown
      rw [← Hsucc.out] at HO3
      have HG := hid hgrow
      clear hown hgrow c3
      obtain ⟨A', c', hv', _⟩ := HO3.out.row
      have H03 : Hid (w3.rowIs w.heap.size 76 5 (fun i => [.int .i64 0, .int .i64 0, .int .i64 0, .slice none 0 0, .int .i64 0].getD i undef)) := H01.out.of_block (HG.out.block _ (by simp))
      have H13 : Hid (w3.rowIs (w.heap.size + 1) 76 5 (fun i => [.int .i64 l, .int .i64 0, .int .i64 (-1), vk, .int .i64 0].getD i undef)) := H11.out.of_block (HG.out.block _ (by simp))
      have c4 := H13.out.cell (i := 3) (by omega)
      have f4 := H13.out.frozen 3
      simp only [List.getD_cons_succ, List.getD_cons_zero] at c4
      subst hv'
      have HK6 : Hid (KW w (w3.setCell ⟨w.heap.size + 1, 3, none⟩ (.slice A' (ints (List.replicate (k + 1) (-1))).length c'))) := Below.setCell (p := ⟨w.heap.size + 1, 3, none⟩) (Below.trans (show Below w.heap.size w wr from HK1.out) (HG.out.mono (by omega))) (by show _ ≤ w.heap.size + 1; omega) _
      have HS6 : Hid (w.heap.size + 2 ≤ (w3.setCell ⟨w.heap.size + 1, 3, none⟩ (.slice A' (ints (List.replicate (k + 1) (-1))).length c')).heap.size) := by
        have := HG.out.size
        have := HS1.out
        simp
        exact hid (by omega)
      have H06 := hid (H03.out.setOther (a := ⟨w.heap.size + 1, 3, none⟩) (by show w.heap.size ≠ w.heap.size + 1; omega) (.slice A' (ints (List.replicate (k + 1) (-1))).length c'))
      have H16 : Hid ((w3.setCell ⟨w.heap.size + 1, 3, none⟩ (.slice A' (ints (List.replicate (k + 1) (-1))).length c')).rowIs (w.heap.size + 1) 76 5 (fun i => [.int .i64 l, .int .i64 0, .int .i64 (-1), .slice A' (ints (List.replicate (k + 1) (-1))).length c', .int .i64 0].getD i undef)) :=
        (H13.out.set 3 _).congr fun i hi => by
          rcases (show i = 0 ∨ i = 1 ∨ i = 2 ∨ i = 3 ∨ i = 4 by omega) with rfl | rfl | rfl | rfl | rfl <;> rfl
      have HO6 : Hid (Owns (w3.setCell ⟨w.heap.size + 1, 3, none⟩ (.slice A' (ints (List.replicate (k + 1) (-1))).length c')) (w.heap.size + 2) 3 (.slice A' (ints (List.replicate (k + 1) (-1))).length c') (ints (List.replicate (k + 1) (-1)))) :=
        HO3.out.of_blocks fun i hi => heap_setCell_other w3 _ i _ (by have := (HO3.out.lt hi).1; show i ≠ w.heap.size + 1; omega)
      generalize (ints (List.replicate (k + 1) (-1))).length = M at *
      go_wp2_with fail
      go_roundw
      case rel => exact ⟨k + 1, _, by omega, by go_num, HK6, HS6, H06, H16, HO6⟩
      case measure => simp [intOf]; omega
    · obtain rfl : k = n := by omega
      clear hlt
      obtain ⟨A', c', hv', _⟩ := HO1.out.row
      subst hv'
      generalize (ints (List.replicate k (-1))).length = M at *
      have HW2 : Hid (wr.heap[w.heap.size + 1]? = some (.cells #[.int .i64 l, .int .i64 0, .int .i64 (-1), .slice A' M c', .int .i64 0] 76 (0, 0))) := whole H11.out
      go_wp2_with (first
        | (refine wpList_load_row rfl 76 _ rfl (w.heap.size + 1) rfl 76 _ (0, 0) _ HW2.out Try.underlying76 rfl (by kernel_rfl) ?_)
        | (refine wpList_store_is rfl 76 _ _ rfl w.heap.size 5 76 _ (fun i => [.int .i64 l, .int .i64 0, .int .i64 (-1), .slice A' M c', .int .i64 0].getD i undef) #[.int .i64 l, .int .i64 0, .int .i64 (-1), .slice A' M c', .int .i64 0] rfl rfl H01.out (by kernel_rfl) rfl ?qa1 ?qa2 ?_))
      case qa1 => intro i hi; rcases (show i = 0 ∨ i = 1 ∨ i = 2 ∨ i = 3 ∨ i = 4 by omega) with rfl | rfl | rfl | rfl | rfl <;> rfl
      case qa2 => intro i hi; rcases (show i = 0 ∨ i = 1 ∨ i = 2 ∨ i = 3 ∨ i = 4 by omega) with rfl | rfl | rfl | rfl | rfl <;> rfl
      intro W3 hrow hkeep _
      have hheap : W3.heap[w.heap.size]? = some (.cells #[.int .i64 l, .int .i64 0, .int .i64 (-1), .slice A' M c', .int .i64 0] 76 (0, 0)) := whole hrow
      have HH := hid hheap
      have HO3 : Hid (Owns W3 w.heap.size 3 (.slice A' M c') (ints (List.replicate k (-1)))) := (hkeep.owns HO1.out fun i hi h => by have := (HO1.out.lt hi).1; omega).base (by omega)
      have HK3 : Hid (KW w W3) := HK1.out.kept hkeep fun i hi => by omega
      clear hrow hkeep hheap
      go_wp2_with fail
      exact bodyPost_ret (results_cell_tmp rfl _ _ _ _ _ (0, 0) _ rfl HH.out Try.underlying76 rfl (by kernel_rfl)) rfl ⟨_, rfl, HO3.out, HK3.out⟩
end Go.Proofs.Ytgadkelldbibgaa
