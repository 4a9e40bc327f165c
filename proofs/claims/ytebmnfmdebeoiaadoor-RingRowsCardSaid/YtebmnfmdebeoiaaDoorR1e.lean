/- Contracts of the reference's Add, Mul, Horner, Dot, Twos, Inverse: what each computes; memory that was there stays. -/
import Derived.Test.YtebmnfmdebeoiaaDoorR1d
import Derived.Test.YtebmnfmdebeoiaaDoorRg2
import Derived.Test.YtebmnfmdebeoiaaDoorOrd
namespace Go.Proofs.YtebmnfmdebeoiaaDoor
open Go.ChangeShapes Go.WideShapes Go.ChangeAt Go.RowKit
set_option linter.unusedVariables false

theorem Row1.k {w0 w : World} {A : Option Addr} {n : Nat} {f : Nat → Value} (h : Row1 w0 A n f) (hk : KW w0 w) : Row1 w A n f := h.below hk

set_option maxHeartbeats 1000000 in
theorem radd_any (A : Option Addr) (n c : Nat) (f : Nat → Int) (w : World) (hn : n ≤ 9223372036854775807) (hf : ∀ k, k < n → 0 ≤ f k ∧ f k ≤ 18446744073709551615) (hr : Row1 w A n fun k => .int .u64 (f k)) :
    Calls Tryd.prog 20 #[.slice A n c] w fun e w' => e = .returned (.int .u64 (IntKind.u64.wrap (Pl.sm f n))) ∧ KW w w' := by
  have HR := hid hr
  have HF := hid hf
  clear hr hf
  go_enter Tryd.func20, Tryd.ntmps20
  go_wp2
  go_loopw [3, 4] (fun s i wr => ∃ k : Nat, k ≤ n ∧ i = .int .i64 k ∧ s = .int .u64 (IntKind.u64.wrap (Pl.sm f k)) ∧ Hid (KW w wr)) (fun _ i _ => n - (intOf i).toNat)
  case atStart => exact ⟨0, by omega, rfl, rfl, KW.refl _⟩
  case round =>
    obtain ⟨k, hk, rfl, rfl, HK⟩ := hrel
    by_cases hlt : k < n
    · obtain ⟨b, off, rfl, hb, hc⟩ := (HR.out.k HK.out).at_ hlt
      obtain ⟨y0, y1⟩ := HF.out k hlt
      have Hst := hid (show Pl.sm f (k + 1) = Pl.sm f k + f k from rfl)
      have u0 := Pl.uw_nn (Pl.sm f k)
      have u1 := Pl.uw_le (Pl.sm f k)
      generalize hs : IntKind.u64.wrap (Pl.sm f k) = s at *
      generalize f k = x at *
      have Hs := hid hs
      clear hs
      go_wp2_with fail
      refine (plus_any s x u0 u1 y0 y1 _).mono ?_
      rintro e w1 ⟨rfl, hb⟩
      have HK1 := hid (HK.out.on hb)
      clear hb
      go_wp2_with fail
      go_roundw
      case rel => exact ⟨k + 1, by omega, by go_num, by rw [Hst.out, ← Hs.out, Pl.uw_addl], HK1⟩
      case measure => simp [intOf]; omega
    · obtain rfl : k = n := by omega
      go_wp2
      go_ret
      exact ⟨ret_int rfl, HK.out⟩

set_option maxHeartbeats 1000000 in
theorem rmulr_any (A : Option Addr) (n c : Nat) (f : Nat → Int) (w : World) (hn : n ≤ 9223372036854775807) (hf : ∀ k, k < n → 0 ≤ f k ∧ f k ≤ 18446744073709551615) (hr : Row1 w A n fun k => .int .u64 (f k)) :
    Calls Tryd.prog 26 #[.slice A n c] w fun e w' => e = .returned (.int .u64 (IntKind.u64.wrap (Pl.pr f n))) ∧ KW w w' := by
  have HR := hid hr
  have HF := hid hf
  clear hr hf
  go_enter Tryd.func26, Tryd.ntmps26
  go_wp2
  go_loopw [3, 4] (fun s i wr => ∃ k : Nat, k ≤ n ∧ i = .int .i64 k ∧ s = .int .u64 (IntKind.u64.wrap (Pl.pr f k)) ∧ Hid (KW w wr)) (fun _ i _ => n - (intOf i).toNat)
  case atStart => exact ⟨0, by omega, rfl, rfl, KW.refl _⟩
  case round =>
    obtain ⟨k, hk, rfl, rfl, HK⟩ := hrel
    by_cases hlt : k < n
    · obtain ⟨b, off, rfl, hb, hc⟩ := (HR.out.k HK.out).at_ hlt
      obtain ⟨y0, y1⟩ := HF.out k hlt
      have Hst := hid (show Pl.pr f (k + 1) = Pl.pr f k * f k from rfl)
      have u0 := Pl.uw_nn (Pl.pr f k)
      have u1 := Pl.uw_le (Pl.pr f k)
      generalize hs : IntKind.u64.wrap (Pl.pr f k) = s at *
      generalize f k = x at *
      have Hs := hid hs
      clear hs
      go_wp2_with fail
      refine (times_any s x u0 u1 y0 y1 _).mono ?_
      rintro e w1 ⟨rfl, hb⟩
      have HK1 := hid (HK.out.on hb)
      clear hb
      go_wp2_with fail
      go_roundw
      case rel => exact ⟨k + 1, by omega, by go_num, by rw [Hst.out, ← Hs.out, Pl.uw_mull], HK1⟩
      case measure => simp [intOf]; omega
    · obtain rfl : k = n := by omega
      go_wp2
      go_ret
      exact ⟨ret_int rfl, HK.out⟩

set_option maxHeartbeats 1000000 in
theorem rhorn_any (A : Option Addr) (n c : Nat) (f : Nat → Int) (x : Int) (w : World) (hn : n ≤ 9223372036854775807) (hf : ∀ k, k < n → 0 ≤ f k ∧ f k ≤ 18446744073709551615) (hx0 : 0 ≤ x) (hx1 : x ≤ 18446744073709551615) (hr : Row1 w A n fun k => .int .u64 (f k)) :
    Calls Tryd.prog 30 #[.slice A n c, .int .u64 x] w fun e w' => e = .returned (.int .u64 (IntKind.u64.wrap (Pl.hz f x n))) ∧ KW w w' := by
  have HR := hid hr
  have HF := hid hf
  clear hr hf
  go_enter Tryd.func30, Tryd.ntmps30
  go_wp2
  go_loopw [5, 6, 7] (fun s p i wr => ∃ k : Nat, k ≤ n ∧ i = .int .i64 k ∧ s = .int .u64 (IntKind.u64.wrap (Pl.hz f x k)) ∧ p = .int .u64 (IntKind.u64.wrap (x ^ k)) ∧ Hid (KW w wr)) (fun _ _ i _ => n - (intOf i).toNat)
  case atStart => exact ⟨0, by omega, rfl, rfl, by rw [Int.pow_zero]; rfl, KW.refl _⟩
  case round =>
    obtain ⟨k, hk, rfl, rfl, rfl, HK⟩ := hrel
    by_cases hlt : k < n
    · obtain ⟨b, off, rfl, hb, hc⟩ := (HR.out.k HK.out).at_ hlt
      obtain ⟨y0, y1⟩ := HF.out k hlt
      have Hst := hid (show Pl.hz f x (k + 1) = Pl.hz f x k + f k * x ^ k from rfl)
      have Hsp := hid (Int.pow_succ x k)
      have u0 := Pl.uw_nn (Pl.hz f x k)
      have u1 := Pl.uw_le (Pl.hz f x k)
      have v0 := Pl.uw_nn (x ^ k)
      have v1 := Pl.uw_le (x ^ k)
      generalize hs : IntKind.u64.wrap (Pl.hz f x k) = s at *
      generalize hp : IntKind.u64.wrap (x ^ k) = p at *
      generalize f k = y at *
      have Hs := hid hs
      have Hp := hid hp
      clear hs hp
      have r0 := Pl.uw_nn (y * p)
      have r1 := Pl.uw_le (y * p)
      generalize hq : IntKind.u64.wrap (y * p) = q at *
      have Hq := hid hq
      clear hq
      go_wp2_with fail
      refine (times_any y p y0 y1 v0 v1 _).mono ?_
      rw [Hq.out]
      rintro e w1 ⟨rfl, hb⟩
      have HK1 := hid (HK.out.on hb)
      clear hb
      go_wp2_with fail
      refine (plus_any s q u0 u1 r0 r1 _).mono ?_
      rintro e w2 ⟨rfl, hb⟩
      have HK2 := hid (HK1.out.on hb)
      clear hb
      go_wp2_with fail
      refine (times_any p x v0 v1 hx0 hx1 _).mono ?_
      rintro e w3 ⟨rfl, hb⟩
      have HK3 := hid (HK2.out.on hb)
      clear hb
      go_wp2_with fail
      go_roundw
      case rel => exact ⟨k + 1, by omega, by go_num, by rw [Hst.out, ← Hs.out, ← Hq.out, ← Hp.out, Pl.uw_mulr, Pl.uw_addl, Pl.uw_addr], by rw [Hsp.out, ← Hp.out, Pl.uw_mull], HK3⟩
      case measure => simp [intOf]; omega
    · obtain rfl : k = n := by omega
      go_wp2
      go_ret
      exact ⟨ret_int rfl, HK.out⟩

set_option maxHeartbeats 1000000 in
theorem rdotr_any (A B : Option Addr) (n c d : Nat) (f g : Nat → Int) (w : World) (hn : n ≤ 9223372036854775807) (hf : ∀ k, k < n → 0 ≤ f k ∧ f k ≤ 18446744073709551615) (hg : ∀ k, k < n → 0 ≤ g k ∧ g k ≤ 18446744073709551615)
    (hr : Row1 w A n fun k => .int .u64 (f k)) (hs : Row1 w B n fun k => .int .u64 (g k)) :
    Calls Tryd.prog 28 #[.slice A n c, .slice B n d] w fun e w' => e = .returned (.tuple #[.int .u64 (IntKind.u64.wrap (Pl.sm (fun k => f k * g k) n)), .int .i64 0]) ∧ KW w w' := by
  have HR := hid hr
  have HS := hid hs
  have HF := hid hf
  have HG := hid hg
  clear hr hs hf hg
  go_enter Tryd.func28, Tryd.ntmps28
  go_wp2
  go_loopw [6, 7] (fun s i wr => ∃ k : Nat, k ≤ n ∧ i = .int .i64 k ∧ s = .int .u64 (IntKind.u64.wrap (Pl.sm (fun k => f k * g k) k)) ∧ Hid (KW w wr)) (fun _ i _ => n - (intOf i).toNat)
  case atStart => exact ⟨0, by omega, rfl, rfl, KW.refl _⟩
  case round =>
    obtain ⟨k, hk, rfl, rfl, HK⟩ := hrel
    by_cases hlt : k < n
    · obtain ⟨b, off, rfl, hb, hc⟩ := (HR.out.k HK.out).at_ hlt
      obtain ⟨b2, off2, rfl, hb2, hc2⟩ := (HS.out.k HK.out).at_ hlt
      obtain ⟨y0, y1⟩ := HF.out k hlt
      obtain ⟨z0, z1⟩ := HG.out k hlt
      have Hst := hid (show Pl.sm (fun k => f k * g k) (k + 1) = Pl.sm (fun k => f k * g k) k + f k * g k from rfl)
      have u0 := Pl.uw_nn (Pl.sm (fun k => f k * g k) k)
      have u1 := Pl.uw_le (Pl.sm (fun k => f k * g k) k)
      generalize hs : IntKind.u64.wrap (Pl.sm (fun k => f k * g k) k) = s at *
      generalize f k = x at *
      generalize g k = y at *
      have Hs := hid hs
      clear hs
      have r0 := Pl.uw_nn (x * y)
      have r1 := Pl.uw_le (x * y)
      generalize hq : IntKind.u64.wrap (x * y) = q at *
      have Hq := hid hq
      clear hq
      go_wp2_with fail
      have L1 : (0 : Int) ≤ (k : Int) := by omega
      have L2 : (k : Int) < (n : Int) := by omega
      have hq := KW.refl wr
      have hXS := And.intro (hq.cell hb hc) (hq.cell hb2 hc2)
      refine wpX_region (S := fun w' => w'.cell? ⟨b, off + k, none⟩ = some (.int .u64 x) ∧ w'.cell? ⟨b2, off2 + k, none⟩ = some (.int .u64 y)) (L := 99) (by kernel_rfl) ?_
      refine wpX_take (i := 0) (v := ?_) rfl rfl (by kernel_rfl) (fun _ _ _ h => h) (Or.inl ⟨rfl, fun wS hwS => ?_⟩) hXS ?_
      rotate_left
      · go_simp; try rfl
      simp only [List.set_cons_zero, List.set_cons_succ]
      refine wpX_take (i := 1) (v := ?_) rfl rfl (by kernel_rfl) (fun _ _ _ h => h) (Or.inl ⟨rfl, fun wS hwS => ?_⟩) hXS ?_
      rotate_left
      · go_simp; try rfl
      simp only [List.set_cons_zero, List.set_cons_succ]
      refine wpX_take (i := 2) (v := ?_) rfl rfl (by kernel_rfl) (fun _ _ _ h => h) (Or.inl ⟨rfl, fun wS hwS => ?_⟩) hXS ?_
      rotate_left
      · go_simp; try rfl
      simp only [List.set_cons_zero, List.set_cons_succ]
      refine wpX_take (i := 3) (v := ?_) rfl rfl (by kernel_rfl) (fun _ _ _ h => h) (Or.inl ⟨rfl, fun wS hwS => ?_⟩) hXS ?_
      rotate_left
      · go_simp; try rfl
      simp only [List.set_cons_zero, List.set_cons_succ]
      refine wpX_take (i := 4) (v := ?_) rfl rfl (by kernel_rfl) (fun _ _ _ h => h) (Or.inl ⟨rfl, fun wS hwS => ?_⟩) hXS ?_
      rotate_left
      · go_simp; try rfl
      simp only [List.set_cons_zero, List.set_cons_succ]
      refine wpX_take (i := 5) (v := ?_) rfl rfl (by kernel_rfl) (fun _ _ _ h => h) (Or.inl ⟨rfl, fun wS hwS => ?_⟩) hXS ?_
      rotate_left
      · go_simp; try rfl
      simp only [List.set_cons_zero, List.set_cons_succ]
      refine wpX_take (i := 6) (v := ?_) rfl rfl (by kernel_rfl) (fun _ _ _ h => h) (Or.inl ⟨rfl, fun wS hwS => ?_⟩) hXS ?_
      rotate_left
      · go_simp; try rfl
      simp only [List.set_cons_zero, List.set_cons_succ]
      refine wpX_take (i := 7) (v := ?_) rfl rfl (by kernel_rfl) (fun _ _ _ h => h) (Or.inl ⟨rfl, fun wS hwS => ?_⟩) hXS ?_
      rotate_left
      · go_simp; try rfl
      simp only [List.set_cons_zero, List.set_cons_succ]
      refine wpX_take (i := 8) (v := ?_) rfl rfl (by kernel_rfl) (fun _ _ _ h => h) (Or.inl ⟨rfl, fun wS hwS => ?_⟩) hXS ?_
      rotate_left
      · go_simp; try rfl
      simp only [List.set_cons_zero, List.set_cons_succ]
      refine wpX_hard (k := 9) (by kernel_rfl) rfl (fun K hK => ?_)
      go_simp
      (refine (times_any x y y0 y1 z0 z1 _).mono ?_; rw [Hq.out]; rintro e w1 ⟨rfl, hb⟩; (try replace hb := undrew hb); replace hq := hq.on hb)
      refine hK _ _ (fun _ => ⟨hq.cell (by omega) hc, hq.cell (by omega) hc2⟩) ?_
      clear hK K
      try simp only [List.set_cons_zero, List.set_cons_succ]
      refine wpX_hard (k := 10) (by kernel_rfl) rfl (fun K hK => ?_)
      go_simp
      (refine (plus_any s q u0 u1 r0 r1 _).mono ?_; rintro e w2 ⟨rfl, hb⟩; replace hq := hq.on hb)
      refine hK _ _ (fun _ => ⟨hq.cell (by omega) hc, hq.cell (by omega) hc2⟩) ?_
      clear hK K
      try simp only [List.set_cons_zero, List.set_cons_succ]
      refine wpX_take (i := 11) (v := ?_) rfl rfl (by kernel_rfl) (fun _ _ _ h => h) (Or.inl ⟨rfl, fun wS hwS => ?_⟩) ⟨hq.cell (by omega) hc, hq.cell (by omega) hc2⟩ ?_
      rotate_left
      · go_simp; try rfl
      simp only [List.set_cons_zero, List.set_cons_succ]
      refine wpX_done (by kernel_rfl) ?_
      have HK2 := hid (hq.below HK.out HK.out.size)
      clear hq hXS
      go_wp2_with fail
      go_roundw
      case rel => exact ⟨k + 1, by omega, by go_num, by rw [Hst.out, ← Hs.out, ← Hq.out, Pl.uw_addl, Pl.uw_addr], by first | exact HK2 | exact HK.out.trans (HK2.out.mono HK.out.size)⟩
      case measure => simp [intOf]; omega
    · obtain rfl : k = n := by omega
      go_wp2
      go_ret2
      exact ⟨rfl, HK.out⟩
theorem rdotr_unlike (A B : Option Addr) (n m c d : Nat) (w : World) (hn : n ≤ 9223372036854775807) (hm : m ≤ 9223372036854775807) (h : n ≠ m) :
    Calls Tryd.prog 28 #[.slice A n c, .slice B m d] w fun e w' => e = .returned (.tuple #[.int .u64 0, .int .i64 2]) ∧ KW w w' := by
  have hd : ((n : Int) != (m : Int)) = true := by simp; omega
  clear h
  go_enter Tryd.func28, Tryd.ntmps28
  go_wp2
  go_ret2
  exact ⟨rfl, KW.refl _⟩

set_option maxHeartbeats 1000000 in
theorem rtwosr_any (a : Int) (w : World) (h0 : 0 ≤ a) (h1 : a ≤ 18446744073709551615) :
    Calls Tryd.prog 17 #[.int .u64 a] w fun e w' => e = .returned (.int .i64 (Pl.tw a)) ∧ w = w' := by
  go_enter Tryd.func17, Tryd.ntmps17
  go_wp2
  go_loop [0, 3] (fun s i => ∃ (k : Nat) (x : Int), k ≤ 64 ∧ 0 ≤ x ∧ x ≤ 18446744073709551615 ∧ Hid (a = 2 ^ k * x) ∧ s = .int .u64 x ∧ i = .int .i64 k) (fun _ i => 64 - (intOf i).toNat)
  case atStart => exact ⟨0, a, by omega, h0, h1, by rw [Hid, Int.pow_zero, Int.one_mul], rfl, rfl⟩
  case round =>
    obtain ⟨k, x, hk, x0, x1, HX, rfl, rfl⟩ := hrel
    by_cases hlt : k < 64
    · by_cases ho : x % 2 = 0
      · have HS : Hid (a = 2 ^ (k + 1) * (x / 2)) := by
          rw [Hid, HX.out, Int.pow_succ, Int.mul_assoc]; congr 1; omega
        have ho' : (x % 2 == 0) = true := by simpa using ho
        clear ho
        go_wp2
        go_round
        case rel => exact ⟨k + 1, x / 2, by omega, by omega, by omega, HS, rfl, by go_num⟩
        case measure => simp [intOf]; omega
      · have HT := hid (Pl.tw_done h0 h1 HX.out x0 hk (Or.inr (by omega)))
        have ho' : (x % 2 == 0) = false := by simpa using ho
        clear ho
        go_wp2
        go_ret
        exact ⟨ret_int (by rw [HT.out]), rfl⟩
    · have HT := hid (Pl.tw_done h0 h1 HX.out x0 hk (Or.inl (by omega)))
      obtain rfl : k = 64 := by omega
      go_wp2
      go_ret
      exact ⟨ret_int (by rw [HT.out]; rfl), rfl⟩

theorem rinvr_even (a : Int) (w : World) (h0 : 0 ≤ a) (h1 : a ≤ 18446744073709551615) (he : a % 2 = 0) :
    Calls Tryd.prog 13 #[.int .u64 a] w fun e w' => e = .returned (.tuple #[.int .u64 0, .bool false]) ∧ KW w w' := by
  have he' : (a % 2 == 0) = true := by simpa using he
  clear he
  go_enter Tryd.func13, Tryd.ntmps13
  go_wp2
  go_ret2
  exact ⟨rfl, KW.refl _⟩

theorem bit_of2 (a x : Int) (i : Nat) (hi : i < 64) (h : Pl.InvTo a i x) :
    IntKind.u64.wrap (IntKind.u64.wrap (a * x) + IntKind.u64.wrap (-1)) / 2 ^ i % 2 = 0 ∨ IntKind.u64.wrap (IntKind.u64.wrap (a * x) + IntKind.u64.wrap (-1)) / 2 ^ i % 2 = 1 := by omega
set_option maxHeartbeats 2000000 in
theorem rinvr_odd (a : Int) (w : World) (h0 : 0 ≤ a) (h1 : a ≤ 18446744073709551615) (he : a % 2 = 1) :
    Calls Tryd.prog 13 #[.int .u64 a] w fun e w' => e = .returned (.tuple #[.int .u64 (Pl.inv a), .bool true]) ∧ KW w w' := by
  have he' : (a % 2 == 0) = false := by simp; omega
  have HE := hid he
  clear he
  go_enter Tryd.func13, Tryd.ntmps13
  go_wp2
  go_loopw [4, 5, 6, 7] (fun x p i _ wr => ∃ (k : Nat) (X : Int), k ≤ 64 ∧ i = .int .i64 k ∧ p = .int .u64 (IntKind.u64.wrap (2 ^ k)) ∧ x = .int .u64 X ∧ Hid (Pl.InvTo a k X) ∧ Hid (KW w wr)) (fun _ _ i _ _ => 64 - (intOf i).toNat)
  case atStart => exact ⟨0, 0, by omega, rfl, rfl, rfl, Pl.invTo_zero a, KW.refl _⟩
  case round =>
    obtain ⟨k, X, hk, rfl, rfl, rfl, HX, HK⟩ := hrel
    by_cases hlt : k < 64
    · have hle := Pl.pow_lt hlt
      have hpos : (0 : Int) < 2 ^ k := Int.pow_pos (by omega)
      have x0 := HX.out.1
      have x1 := HX.out.2.1
      have Hp := hid (Int.pow_succ 2 k)
      have hcase := hid (bit_of2 a X k hlt HX.out)
      have HY := hid (fun h => Pl.invTo_yes HE.out hlt HX.out h)
      have HN := hid (fun h => Pl.invTo_no hlt HX.out h)
      rw [Pl.uw_id (Int.le_of_lt hpos) (by omega)]
      have q0 := Pl.uw_nn (a * X)
      have q1 := Pl.uw_le (a * X)
      have r0 := Pl.uw_nn (-1)
      have r1 := Pl.uw_le (-1)
      generalize hp : (2 : Int) ^ k = p at *
      generalize hq : IntKind.u64.wrap (a * X) = q at *
      generalize hr : IntKind.u64.wrap (-1) = r at *
      have HP := hid hp
      have HQ := hid hq
      have HR := hid hr
      clear hp hq hr
      have t0 := Pl.uw_nn (q + r)
      have t1 := Pl.uw_le (q + r)
      generalize ht : IntKind.u64.wrap (q + r) = t at *
      have HT := hid ht
      clear ht
      have hxp : IntKind.u64.wrap (X + p) = X + p := Pl.uw_id (by omega) (by omega)
      go_wp2_with fail
      refine (times_any a X h0 h1 x0 (by omega) _).mono ?_
      rw [HQ.out]
      rintro e w1 ⟨rfl, hb⟩
      have HK1 := hid (HK.out.on hb)
      clear hb
      go_wp2_with fail
      refine (neg_any 1 (by omega) (by omega) _).mono ?_
      rw [HR.out]
      rintro e w2 ⟨rfl, hb⟩
      have HK2 := hid (HK1.out.on hb)
      clear hb
      go_wp2_with fail
      refine (plus_any q r q0 q1 r0 r1 _).mono ?_
      rw [HT.out]
      rintro e w3 ⟨rfl, hb⟩
      have HK3 := hid (HK2.out.on hb)
      clear hb
      have tp0 : 0 ≤ t / p := Int.ediv_nonneg t0 (by omega)
      rcases hcase.out with hc | hc
      · have HI := hid (HN.out hc)
        have hc' : (t / p % 2 == 1) = false := by simp; omega
        have hpne : (p == 0) = false := by simp; omega
        clear hc hxp
        go_wp2_with fail
        go_roundw
        case rel => exact ⟨k + 1, X, by omega, by go_num, by rw [Hp.out], rfl, HI, HK3⟩
        case measure => simp [intOf]; omega
      · have HI := hid (HY.out hc)
        have hc' : (t / p % 2 == 1) = true := by simpa using hc
        have hpne : (p == 0) = false := by simp; omega
        have HX := hid hxp
        clear hc hxp
        go_wp2_with fail
        refine (plus_any X p x0 (by omega) (by omega) (by omega) _).mono ?_
        rw [HX.out]
        rintro e w4 ⟨rfl, hb⟩
        have HK4 := hid (HK3.out.on hb)
        clear hb
        go_wp2_with fail
        go_roundw
        case rel => exact ⟨k + 1, X + p, by omega, by go_num, by rw [Hp.out], rfl, HI, HK4⟩
        case measure => simp [intOf]; omega
    · obtain rfl : k = 64 := by omega
      obtain rfl : X = Pl.inv a := Pl.inv_eq HE.out (Pl.invTo_end HX.out)
      go_wp2
      go_ret2
      exact ⟨rfl, HK.out⟩
end Go.Proofs.YtebmnfmdebeoiaaDoor
