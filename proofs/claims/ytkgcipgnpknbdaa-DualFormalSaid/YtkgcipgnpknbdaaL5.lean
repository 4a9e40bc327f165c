/- The walk of DualFormal. -/
import Derived.Test.YtkgcipgnpknbdaaD8
import Derived.Test.YtkgcipgnpknbdaaL0
namespace Go.Proofs.Ytkgcipgnpknbdaa
open Go.ChangeShapes Go.WideShapes Go.ChangeAt Go.RowKit
set_option linter.unusedVariables false

/-- the number of the derivative -/
def fg (f : Nat → Int) (j : Nat) : Int := IntKind.u64.wrap ((j + 1 : Nat) * f (j + 1))

theorem mul2e (g : Nat) (a b c : Int) (h : IntKind.u64.wrap (a * b) = c) (w : World) (hr : Row1 w (some ⟨g, 0, none⟩) 2 fun k => .int .u64 (sel a b k)) :
    Calls Try.prog 23 #[.slice (some ⟨g, 0, none⟩) 2 2] w fun e w' => e = .returned (.int .u64 c) ∧ w = w' := by
  refine (mul_any (some ⟨g, 0, none⟩) 2 2 (sel a b) w (by omega) hr).mono fun e w' ⟨he, hw⟩ => ⟨?_, hw⟩
  rw [he, ← h]
  simp [Pl.pr, sel]

theorem hornerB (A : Option Addr) (n c : Nat) (f : Nat → Int) (x v : Int) (w : World) (hn : n ≤ 9223372036854775807) (hr : Row1 w A n fun k => .int .u64 (f k)) (hv : IntKind.u64.wrap (Pl.hz f x n) = v) :
    Calls Try.prog 24 #[.slice A n c, .int .u64 x] w fun e w' => e = .returned (.int .u64 v) ∧ Below w.heap.size w w' :=
  (horner_any A n c f x w hn hr).mono fun e w' ⟨he, hw⟩ => ⟨by rw [he, hv], hw ▸ Below.refl _ _⟩
theorem formal_eq (f : Nat → Int) (x : Int) (n : Nat) : IntKind.u64.wrap (Pl.hz (fg f) x (n - 1)) = IntKind.u64.wrap (Pl.hd f x 1 n) := by
  cases n with
  | zero => rfl
  | succ n => exact (Pl.hd_formal f x n).symm

set_option maxHeartbeats 2000000 in
theorem formal_walk (A : Option Addr) (n c : Nat) (f : Nat → Int) (x : Int) (w : World) (hn : n ≤ 9223372036854775807) (hf : ∀ k, k < n → 0 ≤ f k ∧ f k ≤ 18446744073709551615) (hr : Row1 w A n fun k => .int .u64 (f k))
    (hx0 : 0 ≤ x) (hx1 : x ≤ 18446744073709551615) :
    Calls Try.prog 6 #[.slice A n c, .int .u64 x] w fun e w' => e = .returned (.bool true) ∧ Below w.heap.size w w' := by
  have HR := hid hr
  have HF := hid hf
  clear hr hf
  obtain ⟨i0, hi, hz0, hz1, hz2⟩ := info_parts infoU64
  by_cases hlen : 200 < n
  · have hd : (200 : Int) < (n : Int) := by omega
    go_enter Try.func6, Try.ntmps6
    go_wp2_with fail
    refine (goes_any _).mono ?_
    rintro e w3 ⟨rfl, hb⟩
    go_wp2
    go_ret
    exact ⟨rfl, hb⟩
  · have hd : decide ((200 : Int) < (n : Int)) = false := by simp; omega
    go_enter Try.func6, Try.ntmps6
    go_wp2
    go_loopw [5, 6] (fun v i wr => ∃ k : Nat, k ≤ n - 1 ∧ i = .int .i64 (k + 1) ∧ wr.ownsRow w.heap.size 23 1 v k (gath (fg f) k) ∧ Below w.heap.size w wr)
      (fun _ i _ => n - (intOf i).toNat)
    case atStart => exact ⟨0, Nat.zero_le _, rfl, World.ownsRow_nil _ _ _ _, Below.refl _ _⟩
    case round =>
      obtain ⟨k, hk, rfl, hown, hnx⟩ := hrel
      by_cases hlt : k + 1 < n
      · have hlt2 : (k : Int) + 1 < (n : Int) := by omega
        obtain ⟨b, off, rfl, hb, hc⟩ := (HR.out.below hnx).at_ hlt
        have Hown := hid hown
        have Hnx := hid hnx
        clear hown hnx
        have hw1 : IntKind.u64.wrap ((k : Int) + 1) = (k : Int) + 1 := Pl.uw_id (by omega) (by omega)
        have hsz := Hnx.out.size
        have hg : IntKind.u64.wrap (((k : Int) + 1) * f (k + 1)) = fg f k := rfl
        have Hg := hid hg
        clear hg
        go_wp2_with (first
          | (refine (mul2e _ ((k : Int) + 1) (f (k + 1)) (fg f k) Hg.out _ (row1_sel _ _ _ _ _ (by simp))).mono ?_; rintro e w2 ⟨rfl, rfl⟩)
          | (at_builtin; refine wpList_append_own _ rfl _ _ 31 rfl w.heap.size 23 i0 (.int .u64 0) 1 8 Try.underlying31 hi hz0 hz1 hz2 rfl (by decide) _ _ _ rfl ((Hown.out.alloc _).alloc _) ⟨wr.heap.size + 1, 0, none⟩ 1 1 [.int .u64 (fg f k)] rfl rfl ?c1 ?c2 ?c3 ?c4 ?c5 ?_)
          | fail)
        case c1 =>
          intro j u hj
          match j, hj with
          | 0, hj =>
            simp only [List.getElem?_cons_zero, Option.some.injEq] at hj
            subst hj
            have e : (⟨wr.heap.size + 1, 0, none⟩ : Addr).add 0 = ⟨wr.heap.size + 1, 0, none⟩ := rfl
            rw [e, World.cell?_alloc_at _ _ _ _ (by simp)]
            rfl
        case c2 => intro u hu; simp only [List.mem_singleton] at hu; subst hu; rfl
        case c3 => unfold maxLen; omega
        case c4 => omega
        case c5 => simp; omega
        · intro v' w1 hown' hgrow _
          have R := gath_step hsz Hown.out Hnx.out hgrow hown'
          clear hown' hgrow Hown Hnx
          go_wp2
          go_roundw
          case rel => exact ⟨k + 1, by omega, by go_num, R.1, R.2⟩
          case measure => simp [intOf]; omega
      · have hlt2 : decide ((k : Int) + 1 < (n : Int)) = false := by simp; omega
        obtain rfl : k = n - 1 := by omega
        obtain ⟨D, dc, rfl, hdr⟩ := row1_owned hown
        have HD := hid hdr
        have Hnx := hid hnx
        have hsz := hnx.size
        clear hown hdr hnx
        go_wp2_with fail
        refine (var_any x _).mono ?_
        rintro e w1 ⟨rfl, hb⟩
        have hk := (KW.refl wr).on hb
        clear hb
        go_wp2_with fail
        refine (dhorner_any A n c f x 1 _ hn ((HR.out.below Hnx.out).below hk)).mono ?_
        rintro e w2 ⟨rfl, hb⟩
        replace hk := hk.on hb
        clear hb
        go_wp2_with fail
        have HV := hid (fun W h => hornerB A n c f x (IntKind.u64.wrap (Pl.hz f x n)) W hn h rfl)
        have HE := hid (fun W h => hornerB D (n - 1) dc (fg f) x (IntKind.u64.wrap (Pl.hd f x 1 n)) W (by omega) h (formal_eq f x n))
        generalize IntKind.u64.wrap (Pl.hz f x n) = V at *
        generalize IntKind.u64.wrap (Pl.hd f x 1 n) = E at *
        refine wp_world (fun W => KW w2 W ∧ w2.heap.size < W.heap.size ∧ W.cell? ⟨w2.heap.size, 0, none⟩ = some (.int .u64 V) ∧ W.cell? ⟨w2.heap.size, 1, none⟩ = some (.int .u64 E)) ⟨by show Below _ _ _; go_grown, by simp, by go_simp, by go_simp⟩ ?_
        rintro W ⟨hkW, hs, c0, c1⟩
        have hkr : KW wr W := hkW.below hk hk.size
        have hr2 := hid ((HR.out.below Hnx.out).below hkr)
        have hd2 := hid (HD.out.below hkr)
        have hq := KW.refl W
        clear hk hkW
        refine wpX_region (S := fun w' => w'.cell? ⟨w2.heap.size, 0, none⟩ = some (.int .u64 V) ∧ w'.cell? ⟨w2.heap.size, 1, none⟩ = some (.int .u64 E)) (L := 99) (by kernel_rfl) ?_
        have hXS := And.intro c0 c1
        refine wpX_take (i := 0) (v := ?_) rfl rfl (by kernel_rfl) (fun _ _ _ h => h) (Or.inl ⟨rfl, fun wS hwS => ?_⟩) hXS ?_
        rotate_left
        · go_simp; try rfl
        simp only [List.set_cons_zero, List.set_cons_succ]
        refine wpX_take (i := 1) (v := ?_) rfl rfl (by kernel_rfl) (fun _ _ _ h => h) (Or.inl ⟨rfl, fun wS hwS => ?_⟩) hXS ?_
        rotate_left
        · go_simp; try rfl
        simp only [List.set_cons_zero, List.set_cons_succ]
        refine wpX_take (i := 2) (v := ?_) rfl rfl (by kernel_rfl) (fun _ _ _ h => h) (Or.inl ⟨rfl, fun wS hwS => ?_⟩) hXS ?_
        rotate_left
        · go_simp; try rfl
        simp only [List.set_cons_zero, List.set_cons_succ]
        refine wpX_take (i := 3) (v := ?_) rfl rfl (by kernel_rfl) (fun _ _ _ h => h) (Or.inl ⟨rfl, fun wS hwS => ?_⟩) hXS ?_
        rotate_left
        · go_simp; try rfl
        simp only [List.set_cons_zero, List.set_cons_succ]
        refine wpX_hard (k := 4) (by kernel_rfl) rfl (fun K hK => ?_)
        go_simp
        (refine (HV.out _ (by exact hr2.out)).mono ?_; rintro e w3 ⟨rfl, hb⟩; (try replace hb := undrew hb); replace hq := hq.on hb; clear hb)
        refine hK _ _ (fun _ => ⟨hq.cell hs c0, hq.cell hs c1⟩) ?_
        clear hK K
        try simp only [List.set_cons_zero, List.set_cons_succ]
        replace hXS := And.intro (hq.cell hs c0) (hq.cell hs c1)
        refine wpX_take (i := 5) (v := ?_) rfl rfl (by kernel_rfl) (fun _ _ _ h => h) (Or.inl ⟨rfl, fun wS hwS => ?_⟩) hXS ?_
        rotate_left
        · go_simp; try rfl
        simp only [List.set_cons_zero, List.set_cons_succ]
        refine wpX_take (i := 6) (v := ?_) rfl rfl (by kernel_rfl) (fun _ _ _ h => h) (Or.inl ⟨rfl, fun wS hwS => ?_⟩) hXS ?_
        rotate_left
        · go_simp; try rfl
        simp only [List.set_cons_zero, List.set_cons_succ]
        refine wpX_take (i := 7) (v := ?_) rfl rfl (by kernel_rfl) (fun _ _ _ h => h) (Or.inl ⟨rfl, fun wS hwS => ?_⟩) hXS ?_
        rotate_left
        · go_simp; try rfl
        simp only [List.set_cons_zero, List.set_cons_succ]
        refine wpX_take (i := 8) (v := ?_) rfl rfl (by kernel_rfl) (fun _ _ _ h => h) (Or.inl ⟨rfl, fun wS hwS => ?_⟩) hXS ?_
        rotate_left
        · go_simp; try rfl
        simp only [List.set_cons_zero, List.set_cons_succ]
        refine wpX_take (i := 9) (v := ?_) rfl rfl (by kernel_rfl) (fun _ _ _ h => h) (Or.inl ⟨rfl, fun wS hwS => ?_⟩) hXS ?_
        rotate_left
        · go_simp; try rfl
        simp only [List.set_cons_zero, List.set_cons_succ]
        refine wpX_take (i := 10) (v := ?_) rfl rfl (by kernel_rfl) (fun _ _ _ h => h) (Or.inl ⟨rfl, fun wS hwS => ?_⟩) hXS ?_
        rotate_left
        · go_simp; try rfl
        simp only [List.set_cons_zero, List.set_cons_succ]
        refine wpX_hard (k := 11) (by kernel_rfl) rfl (fun K hK => ?_)
        go_simp
        (refine (HE.out _ (hd2.out.below hq)).mono ?_; rintro e w4 ⟨rfl, hb⟩; (try replace hb := undrew hb); replace hq := hq.on hb; clear hb)
        refine hK _ _ (fun _ => ⟨hq.cell hs c0, hq.cell hs c1⟩) ?_
        clear hK K
        try simp only [List.set_cons_zero, List.set_cons_succ]
        replace hXS := And.intro (hq.cell hs c0) (hq.cell hs c1)
        refine wpX_take (i := 12) (v := ?_) rfl rfl (by kernel_rfl) (fun _ _ _ h => h) (Or.inl ⟨rfl, fun wS hwS => ?_⟩) hXS ?_
        rotate_left
        · go_simp; try rfl
        simp only [List.set_cons_zero, List.set_cons_succ]
        refine wpX_take (i := 13) (v := ?_) rfl rfl (by kernel_rfl) (fun _ _ _ h => h) (Or.inl ⟨rfl, fun wS hwS => ?_⟩) hXS ?_
        rotate_left
        · go_simp; try rfl
        simp only [List.set_cons_zero, List.set_cons_succ]
        refine wpX_take (i := 14) (v := ?_) rfl rfl (by kernel_rfl) (fun _ _ _ h => h) (Or.inl ⟨rfl, fun wS hwS => ?_⟩) hXS ?_
        rotate_left
        · go_simp; try rfl
        simp only [List.set_cons_zero, List.set_cons_succ]
        refine wpX_hard (k := 15) (by kernel_rfl) rfl (fun K hK => ?_)
        go_simp
        (refine (goes_any _).mono ?_; rintro e w5 ⟨rfl, hb⟩; (try replace hb := undrew hb); replace hq := hq.on hb; clear hb)
        refine hK _ _ (fun _ => ⟨hq.cell hs c0, hq.cell hs c1⟩) ?_
        clear hK K
        try simp only [List.set_cons_zero, List.set_cons_succ]
        replace hXS := And.intro (hq.cell hs c0) (hq.cell hs c1)
        refine wpX_take (i := 16) (v := ?_) rfl rfl (by kernel_rfl) (fun _ _ _ h => h) (Or.inl ⟨rfl, fun wS hwS => ?_⟩) hXS ?_
        rotate_left
        · go_simp; try rfl
        simp only [List.set_cons_zero, List.set_cons_succ]
        refine wpX_take (i := 17) (v := ?_) rfl rfl (by kernel_rfl) (fun _ _ _ h => h) (Or.inl ⟨rfl, fun wS hwS => ?_⟩) hXS ?_
        rotate_left
        · go_simp; try rfl
        simp only [List.set_cons_zero, List.set_cons_succ]
        refine wpX_done (by kernel_rfl) ?_
        go_wp2
        go_ret
        exact ⟨rfl, Below.trans Hnx.out (Below.mono (show Below _ _ _ from hq.below hkr hkr.size) hsz)⟩
end Go.Proofs.Ytkgcipgnpknbdaa
