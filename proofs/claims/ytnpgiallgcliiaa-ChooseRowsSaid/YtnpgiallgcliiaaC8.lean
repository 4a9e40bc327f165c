/- Contract of the reference's Row: a row of choices, by sums alone. -/
import Derived.Test.YtnpgiallgcliiaaC7
import Derived.Test.YtnpgiallgcliiaaOwn
namespace Go.Proofs.Ytnpgiallgcliiaa
open Go.ChangeShapes Go.WideShapes Go.ChangeAt Go.RowKit
set_option linter.unusedVariables false

theorem sliceInt : SliceOf Try.prog 43 3 (.int .i64 0) 8 := ⟨Try.underlying43, by kernel_rfl, rfl⟩
/-- what a function tells of 0, 1, .., as ints -/
def lst (f : Nat → Int) (k : Nat) : List Value := (List.range k).map fun j => .int .i64 (f j)
theorem lst_len (f : Nat → Int) (k : Nat) : (lst f k).length = k := by simp [lst]
theorem lst_succ (f : Nat → Int) (k : Nat) : lst f (k + 1) = lst f k ++ [.int .i64 (f k)] := by simp [lst, List.range_succ]
theorem lst_get (f : Nat → Int) {j k : Nat} (h : j < k) : (lst f k).getD j undef = .int .i64 (f j) := by simp [lst, h]
theorem Owns.lst {w : World} {base : Nat} {e : TypeId} {v : Value} {f : Nat → Int} {k : Nat} (h : Owns w base e v (lst f k)) :
    ∃ A c, v = .slice A k c ∧ k ≤ c ∧ Row1 w A k fun j => .int .i64 (f j) := by
  obtain ⟨A, c, hv, hc, _, hr⟩ := h.row
  rw [lst_len] at hv hc hr
  exact ⟨A, c, hv, hc, hr.cong fun j hj => lst_get f hj⟩

/-- a row of choices -/
def cr (n k : Nat) : Int := Ch.ch n k
theorem cr_zero (n : Nat) : cr n 0 = 1 := by unfold cr; rw [Ch.ch_at (by omega) (by omega)]; simp [Ch.bin_zero]; rfl
theorem cr_self (n : Nat) : cr n n = 1 := by unfold cr; rw [Ch.ch_at (by omega) (by omega)]; simp [Ch.bin_self]; rfl
theorem cr_nn (n k : Nat) : 0 ≤ cr n k := Ch.ch_nn _ _
theorem cr_le (n k : Nat) : cr n k ≤ 1099511627776 := Ch.ch_le _ _
theorem cr_step (n k : Nat) (h : k ≤ n) : Ch.held (cr n k + cr n (k + 1)) = cr (n + 1) (k + 1) := by
  have e := Ch.ch_two (n := ((n + 1 : Nat) : Int)) (k := ((k + 1 : Nat) : Int)) (by omega) (by omega) (by omega)
  rw [show ((n + 1 : Nat) : Int) - 1 = (n : Int) from by omega, show ((k + 1 : Nat) : Int) - 1 = (k : Int) from by omega] at e
  have h1 := cr_nn n k; have h2 := cr_le n k; have h3 := cr_nn n (k + 1); have h4 := cr_le n (k + 1)
  unfold cr at *
  rw [← e]
  congr 1
  unfold Ch.held; omega

theorem rrow_no (n : Int) (w : World) (h : n < 0 ∨ 64 < n) :
    Calls Try.prog 25 #[.int .i64 n] w fun e w' => e = .returned (.slice none 0 0) ∧ KW w w' := by
  by_cases h0 : n < 0
  · clear h
    go_enter Try.func25, Try.ntmps25
    go_wp2
    go_ret
    exact ⟨rfl, KW.refl w⟩
  · have d0 : decide (n < 0) = false := by simpa using h0
    have h1 : 64 < n := by omega
    clear h
    go_enter Try.func25, Try.ntmps25
    go_wp2
    go_ret
    exact ⟨rfl, KW.refl w⟩

/-- a slice of ints that came back -/
theorem KW.t' {a b c : World} (h : KW a b) (k : Below a.heap.size b c) : KW a c := Below.trans h k
def SomeRow (w : World) (n : Nat) (f : Nat → Int) (e : Ending) (w' : World) : Prop := ∃ A c, e = .returned (.slice A n c) ∧ Row1 w' A n (fun j => .int .i64 (f j)) ∧ KW w w'
set_option maxRecDepth 100000 in
set_option maxHeartbeats 1000000 in
theorem rrow_yes (n : Nat) (w : World) (h : n ≤ 64) :
    Calls Try.prog 25 #[.int .i64 n] w (SomeRow w (n + 1) (cr n)) := by
  have d0 : decide ((n : Int) < 0) = false := by simp
  go_enter Try.func25, Try.ntmps25
  go_wp2
  go_loopw [3, 4, 5, 6] (fun v i _ _ wr => ∃ (m : Nat) (A : Option Addr) (c : Nat), m ≤ n ∧ i = .int .i64 m ∧ v = .slice A (m + 1) c ∧ Hid (Row1 wr A (m + 1) (fun j => .int .i64 (cr m j))) ∧ Hid (KW w wr)) (fun _ i _ _ _ => n - (intOf i).toNat)
  case atStart =>
    refine ⟨0, _, 1, by omega, rfl, rfl, ?_, (KW.refl w).alloc _⟩
    exact (row1_new w 3 [.int .i64 1]).cong fun k hk => by
      obtain rfl : k = 0 := by simp at hk; omega
      rw [cr_zero]; rfl
  case round =>
    obtain ⟨m, A, c, hm, rfl, rfl, HR, HK⟩ := hrel
    obtain ⟨W1, rfl⟩ : ∃ W1 : World, W1 = wr := ⟨wr, rfl⟩
    by_cases hlt : m < n
    · have HO := hid (show Owns (W1.alloc (.cells #[.int .i64 1] 3)) W1.heap.size 3 (.slice (some ⟨W1.heap.size, 0, none⟩) 1 1) (lst (cr (m + 1)) 1) from by
        have h := Owns.new (w := W1) (base := W1.heap.size) (e := 3) (xs := [.int .i64 1]) (Nat.le_refl _) (by simp)
        have e : lst (cr (m + 1)) 1 = [.int .i64 1] := by simp [lst, cr_zero]
        rw [e]; exact h)
      go_wp2_with fail
      go_loopw [5, 6] (fun nx k w2 => ∃ q : Nat, 1 ≤ q ∧ q ≤ m + 1 ∧ k = .int .i64 q ∧ Hid (Owns w2 W1.heap.size 3 nx (lst (cr (m + 1)) q)) ∧ Hid (KW W1 w2)) (fun _ k _ => m + 1 - (intOf k).toNat)
      case atStart => exact ⟨1, by omega, by omega, rfl, HO, (KW.refl W1).alloc _⟩
      case round =>
        obtain ⟨q, hq1, hq2, rfl, HO2, HK2⟩ := hrel
        by_cases hlt2 : q < m + 1
        · obtain ⟨b, off, rfl, hb0, hc10⟩ := HR.out.at_ (show q - 1 < m + 1 by omega)
          obtain ⟨b', off', hA, hb0', hc20⟩ := HR.out.at_ (show q < m + 1 by omega)
          cases hA
          have hc1 := HK2.out.cell hb0 hc10
          have hc2 := HK2.out.cell hb0 hc20
          have hb : b < wr.heap.size := Nat.lt_of_lt_of_le hb0 HK2.out.size
          have hb' := hb
          have HB := hid hb0
          clear hb0' hc10 hc20 hb0
          have hst := cr_step m (q - 1) (by omega)
          rw [show q - 1 + 1 = q from by omega] at hst
          have x0 := cr_nn m (q - 1)
          have x1 := cr_le m (q - 1)
          have y0 := cr_nn m q
          have y1 := cr_le m q
          have Hsucc := hid (lst_succ (cr (m + 1)) q)
          generalize cr m (q - 1) = x at *
          generalize cr m q = y at *
          generalize cr (m + 1) q = z at *
          have HH := hid (fun W => rheld_any (x + y) W (by omega) (by omega))
          rw [hst] at HH
          clear hst
          have L7 : IntKind.i64.wrap (x + y) = x + y := IntWalk.i64_in _ (by omega)
          have L1 : IntKind.i64.wrap ((q : Int) - 1) = (q : Int) - 1 := IntWalk.i64_in _ (by omega)
          have L2 : (0 : Int) ≤ (q : Int) - 1 := by omega
          have L2b : (1 : Int) ≤ (q : Int) := by omega
          have L3 : ((q : Int) - 1).toNat = q - 1 := by omega
          have L4 : (q : Int) - 1 < ((m : Int) + 1) := by omega
          have L5 : (q : Int) < ((m : Int) + 1) := by omega
          have L6 : (q : Int) ≤ (m : Int) := by omega
          go_wp2_with fail
          have hq := KW.refl wr
          have hXS := And.intro (hq.cell hb hc1) (hq.cell hb' hc2)
          refine wpX_region (S := fun w' => w'.cell? ⟨b, off + (q - 1), none⟩ = some (.int .i64 x) ∧ w'.cell? ⟨b, off + q, none⟩ = some (.int .i64 y)) (L := 99) (by kernel_rfl) ?_
          refine wpX_take (i := 0) (v := ?_) rfl rfl (by kernel_rfl) (fun _ _ _ h => h) (Or.inl ⟨rfl, fun wS hwS => ?_⟩) hXS ?_
          rotate_left
          · go_simp; try rfl
          simp only [List.set_cons_zero, List.set_cons_succ]
          refine wpX_take (i := 1) (v := ?_) rfl rfl (by kernel_rfl) (fun _ _ _ h => h) (Or.inl ⟨rfl, fun wS hwS => ?_⟩) hXS ?_
          rotate_left
          · go_simp; try rfl
          simp only [List.set_cons_zero, List.set_cons_succ]
          refine wpX_take (i := 2) (v := ?_) rfl rfl (by kernel_rfl) (fun _ _ _ h => h) (Or.inl ⟨rfl, fun wS hwS => ?_⟩) hXS ?_
          rotate_left
          · go_simp; try rfl
          simp only [List.set_cons_zero, List.set_cons_succ]
          refine wpX_take (i := 3) (v := ?_) rfl rfl (by kernel_rfl) (fun _ _ _ h => h) (Or.inl ⟨rfl, fun wS hwS => ?_⟩) hXS ?_
          rotate_left
          · go_simp; try rfl
          simp only [List.set_cons_zero, List.set_cons_succ]
          refine wpX_take (i := 4) (v := ?_) rfl rfl (by kernel_rfl) (fun _ _ _ h => h) (Or.inl ⟨rfl, fun wS hwS => ?_⟩) hXS ?_
          rotate_left
          · go_simp; try rfl
          simp only [List.set_cons_zero, List.set_cons_succ]
          refine wpX_take (i := 5) (v := ?_) rfl rfl (by kernel_rfl) (fun _ _ _ h => h) (Or.inl ⟨rfl, fun wS hwS => ?_⟩) hXS ?_
          rotate_left
          · go_simp; try rfl
          simp only [List.set_cons_zero, List.set_cons_succ]
          refine wpX_take (i := 6) (v := ?_) rfl rfl (by kernel_rfl) (fun _ _ _ h => h) (Or.inl ⟨rfl, fun wS hwS => ?_⟩) hXS ?_
          rotate_left
          · go_simp; try rfl
          simp only [List.set_cons_zero, List.set_cons_succ]
          refine wpX_take (i := 7) (v := ?_) rfl rfl (by kernel_rfl) (fun _ _ _ h => h) (Or.inl ⟨rfl, fun wS hwS => ?_⟩) hXS ?_
          rotate_left
          · go_simp; try rfl
          simp only [List.set_cons_zero, List.set_cons_succ]
          refine wpX_take (i := 8) (v := ?_) rfl rfl (by kernel_rfl) (fun _ _ _ h => h) (Or.inl ⟨rfl, fun wS hwS => ?_⟩) hXS ?_
          rotate_left
          · go_simp; try rfl
          simp only [List.set_cons_zero, List.set_cons_succ]
          refine wpX_take (i := 9) (v := ?_) rfl rfl (by kernel_rfl) (fun _ _ _ h => h) (Or.inl ⟨rfl, fun wS hwS => ?_⟩) hXS ?_
          rotate_left
          · go_simp; try rfl
          simp only [List.set_cons_zero, List.set_cons_succ]
          refine wpX_take (i := 10) (v := ?_) rfl rfl (by kernel_rfl) (fun _ _ _ h => h) (Or.inl ⟨rfl, fun wS hwS => ?_⟩) hXS ?_
          rotate_left
          · go_simp; try rfl
          simp only [List.set_cons_zero, List.set_cons_succ]
          refine wpX_hard (k := 11) (by kernel_rfl) rfl (fun K hK => ?_)
          go_simp
          (refine (HH.out _).mono ?_; rintro e w3 ⟨rfl, rfl⟩)
          refine hK _ _ (fun _ => hXS) ?_
          clear hK K
          try simp only [List.set_cons_zero, List.set_cons_succ]
          refine wpX_hard (k := 12) (by kernel_rfl) rfl (fun K hK => ?_)
          go_simp
          refine hK _ _ (fun _ => ⟨(hq.alloc _).cell hb hc1, (hq.alloc _).cell hb' hc2⟩) ?_
          clear hK K
          try simp only [List.set_cons_zero, List.set_cons_succ]
          refine wpX_app1 (k := 13) (by kernel_rfl) rfl rfl rfl sliceInt rfl (W := wr.drew) (v := u5) (base := W1.heap.size) (u := .int .i64 z) (xs := lst (cr (m + 1)) q) rfl rfl rfl (HO2.out.on (KW.refl wr).drew) (HK2.out.size) (by rw [lst_len]; omega) (by rw [lst_len]; omega) ?_
          intro v' w3 hown hgrow
          have hown2 := hid hown
          rw [← Hsucc.out] at hown2
          have HK3 : Hid (KW W1 w3) := HK2.out.drew.trans hgrow
          have hXS3 := And.intro ((Below.cell (p := ⟨b, off + (q - 1), none⟩) hgrow HB.out).trans hc1) ((Below.cell (p := ⟨b, off + q, none⟩) hgrow HB.out).trans hc2)
          refine ⟨fun _ => hXS3, ?_⟩
          clear hown hgrow hXS
          have hXS := hXS3
          try simp only [List.set_cons_zero, List.set_cons_succ]
          refine wpX_take (i := 14) (v := ?_) rfl rfl (by kernel_rfl) (fun _ _ _ h => h) (Or.inl ⟨rfl, fun wS hwS => ?_⟩) hXS ?_
          rotate_left
          · go_simp; try rfl
          simp only [List.set_cons_zero, List.set_cons_succ]
          refine wpX_done (by kernel_rfl) ?_
          go_wp2_with fail
          go_roundw
          case rel => exact ⟨q + 1, by omega, by omega, by go_num, hown2, HK3⟩
          case measure => simp [intOf]; omega
        · have HQ := hid (show q = m + 1 by omega)
          have Hsucc := hid (show lst (cr (m + 1)) (m + 1 + 1) = lst (cr (m + 1)) q ++ [.int .i64 1] from by rw [HQ.out, lst_succ, cr_self])
          have D1 : decide ((q : Int) < (m : Int) + 1) = false := by simp; omega
          have D2 : ¬ ((q : Int) ≤ (m : Int)) := by omega
          clear hlt2
          go_wp2_with (at_builtin; refine wpList_app1 rfl sliceInt rfl (W := wr) (v := u5) (base := W1.heap.size) (u := .int .i64 1) (xs := lst (cr (m + 1)) q) rfl rfl rfl HO2.out (HK2.out.size) (by rw [lst_len]; omega) (by rw [lst_len]; omega) ?_)
          intro v' w3 hown hgrow
          rw [← Hsucc.out] at hown
          obtain ⟨A', c', rfl, _, hrow⟩ := hown.lst
          have HR3 := hid hrow
          have HK3 : Hid (KW w w3) := HK.out.t (HK2.out.t' hgrow)
          clear hown hgrow hrow
          go_wp2_with fail
          go_roundw
          case rel => exact ⟨m + 1, A', c', by omega, by go_num, rfl, HR3, HK3⟩
          case measure => simp [intOf]; omega
    · obtain rfl : m = n := by omega
      go_wp2
      go_ret
      exact ⟨A, c, rfl, HR.out, HK.out⟩
end Go.Proofs.Ytnpgiallgcliiaa
