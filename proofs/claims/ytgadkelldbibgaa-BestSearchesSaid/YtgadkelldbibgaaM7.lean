/- A list of actions in memory; contract of machine.Check. -/
import Derived.Test.YtgadkelldbibgaaM6
namespace Go.Proofs.Ytgadkelldbibgaa
open Go.ChangeShapes Go.WideShapes Go.ChangeAt Go.RowKit
set_option linter.unusedVariables false

/-- a list of actions in memory -/
def Acts (w : World) (A : Option Addr) (l : List Mc.Act) : Prop :=
  0 < l.length → ∃ b off, A = some ⟨b, off, none⟩ ∧ b < w.heap.size ∧ ∀ k, k < l.length → w.cell? ⟨b, off + k * 2, none⟩ = some (.int .i64 (l.getD k (0, 0)).1) ∧ w.cell? ⟨b, off + k * 2 + 1, none⟩ = some (.int .i64 (l.getD k (0, 0)).2)
theorem Acts.at_ {w : World} {A : Option Addr} {l : List Mc.Act} (h : Acts w A l) {k : Nat} (hk : k < l.length) :
    ∃ b off, A = some ⟨b, off, none⟩ ∧ b < w.heap.size ∧ w.cell? ⟨b, off + k * 2, none⟩ = some (.int .i64 (l.getD k (0, 0)).1) ∧ w.cell? ⟨b, off + k * 2 + 1, none⟩ = some (.int .i64 (l.getD k (0, 0)).2) := by
  obtain ⟨b, off, hA, hb, hc⟩ := h (by omega)
  exact ⟨b, off, hA, hb, hc k hk⟩
theorem Acts.kw {w w' : World} {A : Option Addr} {l : List Mc.Act} (h : Acts w A l) (hk : KW w w') : Acts w' A l := by
  intro hn
  obtain ⟨b, off, hA, hb, hc⟩ := h hn
  exact ⟨b, off, hA, Nat.lt_of_lt_of_le hb hk.size, fun k hkl => ⟨hk.cell hb (hc k hkl).1, hk.cell hb (hc k hkl).2⟩⟩

theorem check_no (l n : Int) (v : Value) (w : World) (h : l < 0 ∨ 65536 ≤ l ∨ n < 0 ∨ 1048576 < n) :
    Calls Try.prog 28 #[.int .i64 l, .int .i64 n, v] w fun e w' => e = .returned (.tuple #[.int .i64 0, .int .i64 0, .int .i64 2]) ∧ w = w' := by
  have HN := hid (fun W => new_no l n W h)
  clear h
  go_enter Try.func28, Try.ntmps28
  go_wp2_with fail
  go_step3
  go_wp2_with (go_at_call 22; refine (HN.out _).mono ?_; rintro e w1 ⟨rfl, rfl⟩)
  rw [Exit.noGoto_ret]
  go_ret3
  exact ⟨rfl, rfl⟩

/-- what a list came to -/
def CheckP (w : World) (r : Int × Int × Int) (e : Ending) (w' : World) : Prop := e = .returned (.tuple #[.int .i64 r.1, .int .i64 r.2.1, .int .i64 r.2.2]) ∧ KW w w'
set_option maxRecDepth 100000 in
set_option maxHeartbeats 1000000 in
theorem check_yes (l : Int) (n : Nat) (A : Option Addr) (c : Nat) (list : List Mc.Act) (w : World) (l0 : 0 ≤ l) (l1 : l < 65536) (hn : n ≤ 1048576) (hlen : list.length ≤ 1099511627776) (hA : Acts w A list) :
    Calls Try.prog 28 #[.int .i64 l, .int .i64 n, .slice A list.length c] w (CheckP w (Mc.chk (Mc.new l n) list 0)) := by
  have HN := hid (fun W => new_yes l n W l0 l1 hn)
  have HA := hid hA
  have HI := hid (Mc.new_inv l n l0 l1 hn)
  have HC := hid (show Mc.chk (Mc.new l n) list 0 = Mc.chk (Mc.new l n) (list.drop 0) 0 from rfl)
  have HT := hid (show (Mc.new l n).tot = 0 from rfl)
  generalize Mc.new l n = m0 at *
  generalize Mc.chk m0 list 0 = r at *
  clear hA
  generalize hN : list.length = N at *
  have HL := hid hN
  clear hN
  go_enter Try.func28, Try.ntmps28
  go_wp2_with fail
  go_step3
  go_wp2_with fail
  refine (HN.out _).mono ?_
  rintro e w1 ⟨b, v, rfl, hm, ho, hk⟩
  have HM := hid hm
  have HO := hid ho
  have HK := hid hk
  clear hm ho hk
  go_wp2_with fail
  go_step3
  go_wp2_with fail
  go_loopw [7, 8, 23] (fun at_ e i wr => ∃ (k : Nat) (m : Mc.St), k ≤ N ∧ i = .int .i64 k ∧ at_ = .int .i64 k ∧ e = .int .i64 0 ∧ Hid (Mach wr b v m) ∧ Hid (Mc.Inv m) ∧ Hid (m.tot ≤ 65535 * k) ∧ Hid (r = Mc.chk m (list.drop k) k) ∧ Hid (KW w wr)) (fun _ _ i _ => N - (intOf i).toNat)
  case atStart => exact ⟨0, m0, by omega, rfl, rfl, rfl, HM, HI, by show _ ≤ _; rw [HT.out]; simp, HC, HK⟩
  case round =>
    obtain ⟨k, m, hk, rfl, rfl, rfl, HM1, HI1, HT1, HC1, HK1⟩ := hrel
    clear HM HI HC HK HT HN m0 w1
    by_cases hlt : k < N
    · obtain ⟨b', off, rfl, hb', hc1, hc2⟩ := (HA.out.kw HK1.out).at_ (show k < list.length by rw [HL.out]; exact hlt)
      have HOK := hid (fun e => HC1.out.trans (Mc.chk_ok (m := m) (l := list) (k := k) (by rw [HL.out]; exact hlt) e))
      have HBAD := hid (fun e => HC1.out.trans (Mc.chk_bad (m := m) (l := list) (k := k) (by rw [HL.out]; exact hlt) e))
      generalize (list.getD k (0, 0)).1 = x at *
      generalize (list.getD k (0, 0)).2 = y at *
      have HD := hid (fun W (h : Mach W b v m) => do_any m x y b v W h HI1.out (by have := HT1.out; omega))
      have HS := hid (Mc.step_tot m x y)
      have HI2 := hid (HI1.out.step x y)
      generalize (Mc.step m x y).1 = m2 at *
      generalize (Mc.step m x y).2 = er at *
      have L5 : (k : Int) < (N : Int) := by omega
      go_wp2_with fail
      refine (HD.out _ (HM1.out.kw ((KW.refl wr).alloc _))).mono ?_
      rintro e w2 ⟨rfl, hm, hk⟩
      have HM2 := hid hm
      have HK2 : Hid (KW w w2) := (HK1.out.alloc _).kept hk HO.out
      clear hm hk
      by_cases he : er = 0
      · have HC2 := hid (HOK.out he)
        subst he
        have HT2 : Hid (m2.tot ≤ 65535 * ((k + 1 : Nat) : Int)) := by
          have h1 := HS.out.2
          have h2 := HT1.out
          show _ ≤ _
          omega
        clear HBAD HOK
        go_wp2_with fail
        go_roundw
        case rel => exact ⟨k + 1, m2, by omega, by go_num, by go_num, rfl, HM2, HI2, HT2, HC2, HK2⟩
        case measure => simp [intOf]; omega
      · have HC2 := hid (HBAD.out he)
        have d : (er != 0) = true := by simpa using he
        have d2 : (er == 0) = false := by simpa using he
        clear HBAD HOK he
        go_wp2_with fail
        rw [Exit.noGoto_ret]
        go_ret3
        exact ⟨by rw [HC2.out]; rfl, HK2.out⟩
    · obtain rfl : k = N := by omega
      have HE := hid (show r = if m.pend = 0 then (m.tot, (list.length : Int), 0) else (0, (list.length : Int), 19) from HC1.out.trans (by rw [← HL.out]; exact Mc.chk_end))
      have HDn := hid (fun W (h : Mach W b v m) => done_any m b v W h)
      have HTt := hid (fun W (h : Mach W b v m) => total_any m b v W h)
      by_cases hp : m.pend = 0
      · have HE2 := hid (HE.out.trans (if_pos hp))
        rw [show (m.pend == 0) = true from by simpa using hp] at HDn
        clear hp HE hlt
        go_wp2_with (first
          | (go_at_call 25; refine (HDn.out _ HM1.out).mono ?_; rintro e w2 ⟨rfl, rfl⟩)
          | (go_at_call 58; refine (HTt.out _ HM1.out).mono ?_; rintro e w2 ⟨rfl, rfl⟩))
        rw [Exit.noGoto_ret]
        go_ret3
        exact ⟨by rw [HE2.out, HL.out]; rfl, HK1.out⟩
      · have HE2 := hid (HE.out.trans (if_neg hp))
        rw [show (m.pend == 0) = false from by simpa using hp] at HDn
        clear hp HE hlt
        go_wp2_with (go_at_call 25; refine (HDn.out _ HM1.out).mono ?_; rintro e w2 ⟨rfl, rfl⟩)
        rw [Exit.noGoto_ret]
        go_ret3
        exact ⟨by rw [HE2.out, HL.out]; rfl, HK1.out⟩
theorem check_any (l n : Int) (A : Option Addr) (c : Nat) (list : List Mc.Act) (w : World) (hlen : list.length ≤ 1099511627776) (hA : Acts w A list) :
    Calls Try.prog 28 #[.int .i64 l, .int .i64 n, .slice A list.length c] w (CheckP w (Mc.check l n list)) := by
  unfold Mc.check
  by_cases h : 0 ≤ l ∧ l < 65536 ∧ 0 ≤ n ∧ n ≤ 1048576
  · rw [if_pos h]
    obtain ⟨k, rfl⟩ : ∃ k : Nat, n = k := ⟨n.toNat, by omega⟩
    rw [Int.toNat_natCast]
    exact check_yes l k A c list w h.1 h.2.1 (by omega) hlen hA
  · rw [if_neg h]
    exact (check_no l n _ w (by omega)).mono fun e w' ⟨he, hw⟩ => ⟨he, hw ▸ KW.refl w⟩
end Go.Proofs.Ytgadkelldbibgaa
