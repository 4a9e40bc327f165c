/- The reference's least, with (layer 30): slots that hold something, as bools. -/
import Derived.Test.YtgadkelldbibgaaV11
import Derived.Test.YtgadkelldbibgaaN3
namespace Go.Proofs.Ytgadkelldbibgaa
open Go.ChangeShapes Go.WideShapes Go.ChangeAt Go.RowKit
set_option linter.unusedVariables false

def bls (l : List Bool) : List Value := l.map Value.bool
theorem bls_len (l : List Bool) : (bls l).length = l.length := by simp [bls]
theorem bls_get (l : List Bool) {i : Nat} (h : i < l.length) : (bls l)[i]? = some (.bool (l.getD i false)) := by simp [bls, h]
theorem bls_take_succ (l : List Bool) {k : Nat} (h : k < l.length) : bls (l.take (k + 1)) = bls (l.take k) ++ [.bool (l.getD k false)] := by
  unfold bls
  rw [List.take_succ_eq_append_getElem h, List.map_append]
  simp [h]
theorem sliceBool1 : SliceOf Try.prog 81 4 (.bool false) 1 := ⟨Try.underlying81, by kernel_rfl, rfl⟩
theorem Owns.rowB {w : World} {base : Nat} {v : Value} {l : List Bool} (h : Owns w base 4 v (bls l)) : ∃ A c, v = .slice A l.length c ∧ Row1 w A l.length fun i => .bool (l.getD i false) := by
  obtain ⟨A, c, hv, _, _, hr⟩ := h.row
  rw [bls_len] at hv hr
  exact ⟨A, c, hv, hr.cong fun i hi => by rw [List.getD_eq_getElem?_getD, bls_get l hi]; rfl⟩
theorem Owns.cellB {w : World} {B N c : Nat} {A : Option Addr} {l : List Bool} (h : Owns w B 4 (.slice A N c) (bls l)) {n : Nat} (hn : n < l.length) :
    ∃ tb, A = some ⟨tb, 0, none⟩ ∧ B ≤ tb ∧ tb < w.heap.size ∧ w.cell? ⟨tb, n, none⟩ = some (.bool (l.getD n false)) ∧ w.frozen? ⟨tb, n, none⟩ = false ∧
      ∀ x : Bool, Owns (w.setCell ⟨tb, n, none⟩ (.bool x)) B 4 (.slice A N c) (bls (l.set n x)) := by
  have hx := h
  rcases h.2 with ⟨e, h0⟩ | ⟨g, cap, cur, hv, hb, hg, hc, _, hsz, htake⟩
  · cases e; rw [bls_len] at h0; omega
  · cases hv
    have hlt : g < w.heap.size := (Array.getElem?_eq_some_iff.1 hg).1
    refine ⟨g, rfl, hb, hlt, ?_, by simp [World.frozen?, hg], fun x => ?_⟩
    · have := World.ownsRow.cells hx (g := g) (by simp [Value.ownBlock]) n _ (bls_get l hn)
      have e : (⟨g, 0, none⟩ : Addr).add n = ⟨g, n, none⟩ := by unfold Addr.add; split <;> simp_all
      rw [e] at this
      exact this
    · have := (World.ownsRow.stored hx n (.bool x)).1
      have e : (bls l).set n (.bool x) = bls (l.set n x) := by simp [bls, List.map_set]
      rw [e] at this
      have e2 : (bls (l.set n x)).length = (bls l).length := by rw [bls_len, bls_len, List.length_set]
      unfold Owns
      rw [e2]
      exact this
theorem lst_is : ∀ (l : List Bool) (k : Nat), k ≤ l.length → (∀ j, j < k → l.getD j false = true) → (k = l.length ∨ l.getD k false = false) → Rv.lst l = k
  | [], k, h, _, _ => by simp at h; subst h; rfl
  | b :: l, 0, h, _, h2 => by
    rcases h2 with h2 | h2
    · simp at h2
    · simp at h2; subst h2; rfl
  | b :: l, k + 1, h, h1, h2 => by
    have hb := h1 0 (by omega)
    simp at hb
    subst hb
    have ih := lst_is l k (by simpa using h) (fun j hj => by simpa using h1 (j + 1) (by omega)) (by simpa using h2)
    simp [Rv.lst, ih]
theorem rleast_any (l : List Bool) (A : Option Addr) (c : Nat) (w : World) (hn : l.length ≤ 1048576) (hr : Row1 w A l.length fun i => .bool (l.getD i false)) :
    Calls Try.prog 89 #[.slice A l.length c] w fun e w' => e = .returned (.int .i64 (Rv.lst l)) ∧ w = w' := by
  have HR := hid hr
  have HL := hid (fun k => lst_is l k)
  clear hr
  generalize Rv.lst l = s at *
  generalize l.length = N at *
  go_enter Try.func89, Try.ntmps89
  go_wp2_with fail
  go_loop [3] (fun i => ∃ k : Nat, k ≤ N ∧ i = .int .i64 k ∧ Hid (∀ j, j < k → l.getD j false = true)) (fun i => N - (intOf i).toNat)
  case atStart => exact ⟨0, by omega, rfl, fun j hj => absurd hj (by omega)⟩
  case round =>
    obtain ⟨k, hk, rfl, HNo⟩ := hrel
    by_cases hlt : k < N
    · obtain ⟨b', off, rfl, hb', hcell⟩ := HR.out.at_ hlt
      have L5 : (k : Int) < (N : Int) := by omega
      cases e : l.getD k false with
      | true =>
        rw [e] at hcell
        have HNo2 : Hid (∀ j, j < k + 1 → l.getD j false = true) := fun j hj => by
          rcases (show j < k ∨ j = k by omega) with h | rfl
          · exact HNo.out j h
          · exact e
        clear e
        go_wp2_with fail
        go_round
        case rel => exact ⟨k + 1, by omega, by go_num, HNo2⟩
        case measure => simp [intOf]; omega
      | false =>
        rw [e] at hcell
        have HS := hid (HL.out k hk HNo.out (.inr e))
        clear e
        go_wp2_with fail
        go_ret
        exact ⟨by rw [HS.out]; rfl, rfl⟩
    · obtain rfl : k = N := by omega
      have HS := hid (HL.out k hk HNo.out (.inl rfl))
      have d : decide (k < k) = false := decide_eq_false (by omega)
      clear hlt
      go_wp2_with fail
      go_ret
      exact ⟨by rw [HS.out]; rfl, rfl⟩
set_option maxRecDepth 100000 in
set_option maxHeartbeats 2000000 in
theorem rwith_any (l : List Bool) (A : Option Addr) (c k : Nat) (x : Bool) (w : World) (hn : l.length ≤ 1048576) (hk : k < l.length) (hr : Row1 w A l.length fun i => .bool (l.getD i false)) :
    Calls Try.prog 90 #[.slice A l.length c, .int .i64 k, .bool x] w fun e w' => ∃ v, e = .returned v ∧ Owns w' w.heap.size 4 v (bls (l.set k x)) ∧ KW w w' := by
  have HR := hid hr
  have HT := hid (fun k (h : k < l.length) => bls_take_succ l h)
  have HT0 : Hid (bls (l.take 0) = []) := rfl
  have HTl := hid (fun k (h : k ≤ l.length) => (by rw [bls_len, List.length_take]; omega : (bls (l.take k)).length = k))
  have HTe : Hid (l.take l.length = l) := List.take_length
  clear hr
  generalize hN : l.length = N at *
  have HN := hid hN
  clear hN
  have HO0 := hid (show Owns (w.alloc (.cells #[] 4)) w.heap.size 4 (.slice (some ⟨w.heap.size, 0, none⟩) 0 0) [] from Owns.new (xs := []) (Nat.le_refl _) (by simp))
  have HK0 := hid ((KW.refl w).alloc (.cells #[] 4))
  go_enter Try.func90, Try.ntmps90
  go_wp2_with fail
  go_loopw [7, 8] (fun v i wr => ∃ j : Nat, j ≤ N ∧ i = .int .i64 j ∧ Hid (Owns wr w.heap.size 4 v (bls (l.take j))) ∧ Hid (KW w wr)) (fun _ i _ => N - (intOf i).toNat)
  case atStart => exact ⟨0, by omega, rfl, by rw [HT0.out]; exact HO0, HK0⟩
  case round =>
    obtain ⟨j, hj, rfl, HO, HK⟩ := hrel
    clear HO0 HK0
    obtain ⟨Ao, co, hvo, _⟩ := HO.out.row
    rw [HTl.out j hj] at hvo
    subst hvo
    by_cases hlt : j < N
    · obtain ⟨b', off, rfl, hb', hcell⟩ := (HR.out.k HK.out).at_ hlt
      have L5 : (j : Int) < (N : Int) := by omega
      have HTj := hid (HT.out j hlt)
      have hlj := HTl.out j hj
      generalize l.getD j false = y at *
      go_wp2_with (at_builtin; refine wpList_app1 rfl sliceBool1 rfl (W := wr) (v := .slice Ao j co) (base := w.heap.size) (u := .bool y) (xs := bls (l.take j)) rfl rfl rfl HO.out HK.out.size (by rw [hlj]; omega) (by rw [hlj]; omega) ?_; intro v' w3 hown hgrow)
      rw [← HTj.out] at hown
      have HO3 := hid hown
      have HK3 : Hid (KW w w3) := Below.trans HK.out hgrow
      clear hown hgrow
      go_roundw
      case rel => exact ⟨j + 1, by omega, by go_num, HO3, HK3⟩
      case measure => simp [intOf]; omega
    · obtain rfl : j = N := by omega
      rw [HTe.out] at HO
      obtain ⟨tb, hA, hb, hlt2, hc, hf, hset⟩ := HO.out.cellB (n := k) (by rw [HN.out]; exact hk)
      subst hA
      have HSet := hid hset
      have HKs : Hid (∀ v, KW w (wr.setCell ⟨tb, k, none⟩ v)) := fun v => Below.setCell (p := ⟨tb, k, none⟩) HK.out hb v
      have L7 : (k : Int) < (j : Int) := by omega
      have d : decide (j < j) = false := decide_eq_false (by omega)
      clear hlt hset
      go_wp2_with fail
      go_ret
      exact ⟨_, rfl, HSet.out x, HKs.out _⟩
end Go.Proofs.Ytgadkelldbibgaa
