/- The walk of OpcodeWords. -/
import Derived.Test.YtnpgiallgcliiaaO9
import Derived.Test.YtnpgiallgcliiaaRowO
namespace Go.Proofs.Ytnpgiallgcliiaa
open Go.ChangeShapes Go.WideShapes Go.ChangeAt Go.RowKit
set_option linter.unusedVariables false

namespace Oc
def wc (k d a b v : Int) : Int := if right k d a b v = true then 0 else 6
def wa (k d a b v : Int) : List Int := if right k d a b v = true then wl k d a b v else []
end Oc
/-- what Words answers, whichever -/
def WordsE (w : World) (c : Int) (l : List Int) (e : Ending) (w' : World) : Prop :=
  ∃ u, e = .returned (.tuple #[u, .int .i64 c]) ∧ WT w' u l ∧ (∀ b, u.ownBlock = some b → w.heap.size ≤ b) ∧ KW w w'
theorem owords_any (k d a b v : Int) (w : World) (hv : 0 ≤ v ∧ v ≤ 18446744073709551615) :
    Calls Try.prog 14 #[.agg (opv k d a b v)] w (WordsE w (Oc.wc k d a b v) (Oc.wa k d a b v)) := by
  unfold Oc.wc Oc.wa
  cases h : Oc.right k d a b v with
  | false => exact (owords_no k d a b v w h).mono fun e w' ⟨he, hk⟩ => ⟨_, he, WT.nil _, (by intro b hb; cases hb), hk⟩
  | true => exact (owords_yes k d a b v w h hv).mono fun e w' ⟨u, he, ho, hk⟩ => ⟨u, he, ho.wt, fun b hb => (ho.lt hb).1, hk⟩
theorem rwords_any (k d a b v : Int) (w : World) (hv : 0 ≤ v ∧ v ≤ 18446744073709551615) :
    Calls Try.prog 15 #[.agg (opv k d a b v)] w (WordsE w (Oc.wc k d a b v) (Oc.wa k d a b v)) := by
  unfold Oc.wc Oc.wa
  cases h : Oc.right k d a b v with
  | false => exact (rwords_no k d a b v w h).mono fun e w' ⟨he, hk⟩ => ⟨_, he, WT.nil _, (by intro b hb; cases hb), hk⟩
  | true => exact (rwords_yes k d a b v w h hv).mono fun e w' ⟨u, he, ho, hk⟩ => ⟨u, he, ho.wt, fun b hb => (ho.lt hb).1, hk⟩
theorem wl_len (k d a b v : Int) : (Oc.wl k d a b v).length ≤ 5 := by
  have := Oc.pw_len k d a b 3
  unfold Oc.wl
  split
  · simp; omega
  · omega

theorem wa_len (k d a b v : Int) : (Oc.wa k d a b v).length ≤ 5 := by
  unfold Oc.wa
  split
  · exact wl_len _ _ _ _ _
  · simp
/-- words that come in -/
theorem words_in {n : Nat} {f : Nat → Int} {w : World} {A : Option Addr} (hr : 0 < n → ∃ b off, A = some ⟨b, off, none⟩ ∧ b < w.heap.size ∧ ∀ k, k < n → w.cell? ⟨b, off + k, none⟩ = some (.int .u64 (f k))) (hf : ∀ k, k < n → 0 ≤ f k ∧ f k ≤ 18446744073709551615) :
    ∃ l : List Int, l.length = n ∧ (∀ x ∈ l, 0 ≤ x ∧ x ≤ 18446744073709551615) ∧ Row1 w A l.length fun i => .int .u64 (l.getD i 0) := by
  refine ⟨(List.range n).map f, by simp, fun x hx => ?_, fun h0 => ?_⟩
  · obtain ⟨k, hk, rfl⟩ := List.mem_map.1 hx
    exact hf k (by simpa using hk)
  · have hn : ((List.range n).map f).length = n := by simp
    rw [hn] at h0
    obtain ⟨b, off, hA, hb, hc⟩ := hr h0
    refine ⟨b, off, hA, hb, fun k hk => ?_⟩
    rw [hn] at hk
    have e : ((List.range n).map f).getD k 0 = f k := by simp [hk]
    show _ = some (Value.int .u64 (((List.range n).map f).getD k 0))
    rw [e]
    exact hc k hk

theorem opv_row (w : World) (k d a b v : Int) : (w.alloc (.cells #[.int .i64 k, .int .i64 d, .int .i64 a, .int .i64 b, .int .u64 v] 24)).rowIs w.heap.size 24 5 (fun i => [.int .i64 k, .int .i64 d, .int .i64 a, .int .i64 b, .int .u64 v].getD i undef) :=
  World.rowIs_alloc w #[.int .i64 k, .int .i64 d, .int .i64 a, .int .i64 b, .int .u64 v] 24 _ fun i hi => by simp at hi; simp [hi]
set_option maxRecDepth 100000 in
set_option maxHeartbeats 2000000 in
theorem owords_walk (k d a b v : Int) (A : Option Addr) (c : Nat) (l : List Int) (w : World) (hv : 0 ≤ v ∧ v ≤ 18446744073709551615) (hr : Row1 w A l.length fun i => .int .u64 (l.getD i 0)) (hb : ∀ x ∈ l, 0 ≤ x ∧ x ≤ 18446744073709551615) :
    Calls Try.prog 3 #[.agg (opv k d a b v), .slice A l.length c] w fun e w' => e = .returned (.bool true) ∧ KW w w' := by
  have HG := hid (fun W => goes07_any W)
  have hk := (KW.refl w).alloc (.cells (opv k d a b v) 24)
  have HW := hid (fun W => owords_any k d a b v W hv)
  have HV := hid (fun W => rwords_any k d a b v W hv)
  have HR := hid (fun W (h : KW w W) (hl : l.length ≤ 1099511627776) => oread_any A c l W (hr.k h) hl hb)
  have HS := hid (fun W (h : KW w W) (hl : l.length ≤ 1099511627776) => rread_any A c l W (hr.k h) hl hb)
  have HT1 := hid (fun W => oright_any k d a b v W)
  have HT2 := hid (fun W => rright07_any k d a b v W)
  have Hll := hid (wa_len k d a b v)
  unfold WordsE at HW HV
  unfold RdP at HR HS
  generalize Oc.right k d a b v = ok at *
  generalize Oc.wa k d a b v = wl at *
  generalize Oc.wc k d a b v = wc at *
  generalize Oc.rd l = rd at *
  obtain ⟨rk, rdd, ra, rb, rv, rn, re⟩ := rd
  simp only at HR HS
  clear hr hb
  generalize l.length = N at *
  unfold opv at *
  by_cases h : 300 < (N : Int)
  · go_enter Try.func3, Try.ntmps3
    go_wp2_with (go_at_call 13; refine (HG.out _).mono ?_; rintro e w3 ⟨rfl, hk3⟩)
    go_ret
    exact ⟨rfl, hk.t hk3⟩
  have dN : decide (300 < (N : Int)) = false := decide_eq_false h
  have HNl := hid (show N ≤ 1099511627776 by omega)
  clear h
  have q0 : (w.alloc (.cells #[.int .i64 k, .int .i64 d, .int .i64 a, .int .i64 b, .int .u64 v] 24)).rowIs w.heap.size 24 5 (fun i => [.int .i64 k, .int .i64 d, .int .i64 a, .int .i64 b, .int .u64 v].getD i undef) := World.rowIs_alloc w #[.int .i64 k, .int .i64 d, .int .i64 a, .int .i64 b, .int .u64 v] 24 _ fun i hi => by simp at hi; simp [hi]
  have HQ := hid q0
  clear q0
  go_enter Try.func3, Try.ntmps3
  go_wp2_with fail
  refine (HW.out _).mono ?_
  rintro e w1 ⟨u1, rfl, ht1, ho1, hk1⟩
  have HQ1 := hid (KW.row hk1 HQ.out.lt HQ.out)
  have HK1 := hid (hk.t hk1)
  have HT := hid ht1
  obtain ⟨A1, k1, hu1, _⟩ := ht1
  subst hu1
  have s0 := HQ1.out.cell (i := 0) (by omega)
  have s1 := HQ1.out.cell (i := 1) (by omega)
  have s2 := HQ1.out.cell (i := 2) (by omega)
  have s3 := HQ1.out.cell (i := 3) (by omega)
  have s4 := HQ1.out.cell (i := 4) (by omega)
  simp only [List.getD_cons_succ, List.getD_cons_zero] at s0 s1 s2 s3 s4
  clear hk1 ho1 hk HQ
  go_wp2_with fail
  refine (HV.out _).mono ?_
  rintro e w2 ⟨u2, rfl, ht2, ho2, hk2⟩
  have HQ2 := hid (KW.row hk2 HQ1.out.lt HQ1.out)
  have HK2 := hid (HK1.out.t hk2)
  have HT' := hid (HT.out.kw hk2)
  have HU := hid ht2
  obtain ⟨A2, k2, hu2, _⟩ := ht2
  subst hu2
  clear hk2 ho2 s0 s1 s2 s3 s4 HQ1 HK1 HT
  go_wp2_with fail
  refine (HR.out _ HK2.out HNl.out).mono ?_
  rintro e w3 ⟨rfl, hk3⟩
  have HQ3 := hid ((KW.row hk3 HQ2.out.lt HQ2.out).alloc (.cells (opv rk rdd ra rb rv) 24))
  have HK3 := hid ((HK2.out.t hk3).alloc (.cells (opv rk rdd ra rb rv) 24))
  have HT3 := hid ((HT'.out.kw hk3).kw ((KW.refl w3).alloc (.cells (opv rk rdd ra rb rv) 24)))
  have HU3 := hid ((HU.out.kw hk3).kw ((KW.refl w3).alloc (.cells (opv rk rdd ra rb rv) 24)))
  have HX3 := hid (opv_row w3 rk rdd ra rb rv)
  unfold opv at *
  clear hk3 HQ2 HK2 HT' HU
  go_wp2_with fail
  refine (HS.out _ HK3.out HNl.out).mono ?_
  rintro e w4 ⟨rfl, hk4⟩
  have HY4 := hid (opv_row w4 rk rdd ra rb rv)
  have hkA := hk4.alloc (.cells (opv rk rdd ra rb rv) 24)
  have HQ4 := hid (KW.row hkA HQ3.out.lt HQ3.out)
  have HX4 := hid (KW.row hkA HX3.out.lt HX3.out)
  have HK4 := hid (HK3.out.t hkA)
  have HT4 := hid (HT3.out.kw hkA)
  have HU4 := hid (HU3.out.kw hkA)
  unfold opv at *
  clear hk4 hkA HQ3 HK3 HT3 HU3 HX3
  go_wp2_with fail
  have hXS := And.intro (HQ4.out.cell (i := 0) (by omega)) (And.intro (HQ4.out.cell (i := 1) (by omega)) (And.intro (HQ4.out.cell (i := 2) (by omega)) (And.intro (HQ4.out.cell (i := 3) (by omega)) (And.intro (HQ4.out.cell (i := 4) (by omega))
    (And.intro (HX4.out.cell (i := 0) (by omega)) (And.intro (HX4.out.cell (i := 1) (by omega)) (And.intro (HX4.out.cell (i := 2) (by omega)) (And.intro (HX4.out.cell (i := 3) (by omega)) (And.intro (HX4.out.cell (i := 4) (by omega))
    (And.intro (HY4.out.cell (i := 0) (by omega)) (And.intro (HY4.out.cell (i := 1) (by omega)) (And.intro (HY4.out.cell (i := 2) (by omega)) (And.intro (HY4.out.cell (i := 3) (by omega)) (HY4.out.cell (i := 4) (by omega)))))))))))))))
  simp only [List.getD_cons_succ, List.getD_cons_zero] at hXS
  generalize hW : w4.alloc (.cells #[.int .i64 rk, .int .i64 rdd, .int .i64 ra, .int .i64 rb, .int .u64 rv] 24) = W5 at *
  have HX := hid hXS
  have HL := hid (And.intro HQ4.out.lt (And.intro HX4.out.lt HY4.out.lt))
  clear hW HQ4 HX4 HY4
  have HSS := hid (fun W (h : KW W5 W) => And.intro (KW.cell h HL.out.1 HX.out.1) (And.intro (KW.cell h HL.out.1 HX.out.2.1) (And.intro (KW.cell h HL.out.1 HX.out.2.2.1) (And.intro (KW.cell h HL.out.1 HX.out.2.2.2.1) (And.intro (KW.cell h HL.out.1 HX.out.2.2.2.2.1)
    (And.intro (KW.cell h HL.out.2.1 HX.out.2.2.2.2.2.1) (And.intro (KW.cell h HL.out.2.1 HX.out.2.2.2.2.2.2.1) (And.intro (KW.cell h HL.out.2.1 HX.out.2.2.2.2.2.2.2.1) (And.intro (KW.cell h HL.out.2.1 HX.out.2.2.2.2.2.2.2.2.1) (And.intro (KW.cell h HL.out.2.1 HX.out.2.2.2.2.2.2.2.2.2.1)
    (And.intro (KW.cell h HL.out.2.2 HX.out.2.2.2.2.2.2.2.2.2.2.1) (And.intro (KW.cell h HL.out.2.2 HX.out.2.2.2.2.2.2.2.2.2.2.2.1) (And.intro (KW.cell h HL.out.2.2 HX.out.2.2.2.2.2.2.2.2.2.2.2.2.1) (And.intro (KW.cell h HL.out.2.2 HX.out.2.2.2.2.2.2.2.2.2.2.2.2.2.1) (KW.cell h HL.out.2.2 HX.out.2.2.2.2.2.2.2.2.2.2.2.2.2.2)))))))))))))))
  refine wpX_region (S := fun w' => w'.cell? ⟨w.heap.size, 0, none⟩ = some (.int .i64 k) ∧ w'.cell? ⟨w.heap.size, 1, none⟩ = some (.int .i64 d) ∧ w'.cell? ⟨w.heap.size, 2, none⟩ = some (.int .i64 a) ∧ w'.cell? ⟨w.heap.size, 3, none⟩ = some (.int .i64 b) ∧ w'.cell? ⟨w.heap.size, 4, none⟩ = some (.int .u64 v) ∧
    w'.cell? ⟨w3.heap.size, 0, none⟩ = some (.int .i64 rk) ∧ w'.cell? ⟨w3.heap.size, 1, none⟩ = some (.int .i64 rdd) ∧ w'.cell? ⟨w3.heap.size, 2, none⟩ = some (.int .i64 ra) ∧ w'.cell? ⟨w3.heap.size, 3, none⟩ = some (.int .i64 rb) ∧ w'.cell? ⟨w3.heap.size, 4, none⟩ = some (.int .u64 rv) ∧
    w'.cell? ⟨w4.heap.size, 0, none⟩ = some (.int .i64 rk) ∧ w'.cell? ⟨w4.heap.size, 1, none⟩ = some (.int .i64 rdd) ∧ w'.cell? ⟨w4.heap.size, 2, none⟩ = some (.int .i64 ra) ∧ w'.cell? ⟨w4.heap.size, 3, none⟩ = some (.int .i64 rb) ∧ w'.cell? ⟨w4.heap.size, 4, none⟩ = some (.int .u64 rv)) (L := 99) (by kernel_rfl) ?_
  refine wpX_take (i := 0) (v := ?_) rfl rfl (by kernel_rfl) (fun _ _ _ h => h) (Or.inl ⟨rfl, fun wS hwS => ?_⟩) hXS ?_
  rotate_left
  · go_simp; try rfl
  simp only [List.set_cons_zero, List.set_cons_succ]
  refine wpX_take (i := 2) (v := ?_) rfl rfl (by kernel_rfl) (fun _ _ _ h => h) (Or.inl ⟨rfl, fun wS hwS => ?_⟩) hXS ?_
  rotate_left
  · go_simp; try rfl
  simp only [List.set_cons_zero, List.set_cons_succ]
  clear hXS
  refine wpX_hard (k := 1) (by kernel_rfl) rfl (fun K hK => ?_)
  go_simp
  refine (HT1.out _).mono ?_; rintro e v1 ⟨rfl, hb⟩; have HB1 := hid ((KW.refl W5).drew.t hb); clear hb
  refine hK _ _ (fun _ => HSS.out _ HB1.out) ?_
  clear hK K
  try simp only [List.set_cons_zero, List.set_cons_succ]
  refine wpX_hard (k := 3) (by kernel_rfl) rfl (fun K hK => ?_)
  go_simp
  refine (HT2.out _).mono ?_; rintro e v2 ⟨rfl, hb⟩; have HB2 := hid (HB1.out.t hb); clear hb
  refine hK _ _ (fun _ => HSS.out _ HB2.out) ?_
  clear hK K
  try simp only [List.set_cons_zero, List.set_cons_succ]
  have hXS := HSS.out _ HB2.out
  refine wpX_take (i := 4) (v := ?_) rfl rfl (by kernel_rfl) (fun _ _ _ h => h) (Or.inl ⟨rfl, fun wS hwS => ?_⟩) hXS ?_
  rotate_left
  · go_simp; try rfl
  simp only [List.set_cons_zero, List.set_cons_succ]
  refine wpX_take (i := 5) (v := ?_) rfl rfl (by kernel_rfl) (fun _ _ _ h => h) (Or.inl ⟨rfl, fun wS hwS => ?_⟩) hXS ?_
  rotate_left
  · go_simp; try rfl
  simp only [List.set_cons_zero, List.set_cons_succ]
  refine wpX_take (i := 6) (v := ?_) rfl rfl (by kernel_rfl) (fun _ _ _ h => h) (Or.inl ⟨rfl, fun wS hwS => ?_⟩) hXS ?_
  rotate_left
  · go_simp; try rfl
  simp only [List.set_cons_zero, List.set_cons_succ]
  refine wpX_take (i := 7) (v := ?_) rfl rfl (by kernel_rfl) (fun _ _ _ h => h) (Or.inl ⟨rfl, fun wS hwS => ?_⟩) hXS ?_
  rotate_left
  · go_simp; try rfl
  simp only [List.set_cons_zero, List.set_cons_succ]
  clear hXS
  refine wpX_hard (k := 8) (by kernel_rfl) rfl (fun K hK => ?_)
  go_simp
  refine (same05_any _ _ wl wl _ (HT4.out.kw HB2.out) (HU4.out.kw HB2.out) (by have := Hll.out; omega)).mono ?_; rintro e v3 ⟨rfl, hb⟩; have HB3 := hid (HB2.out.t hb); clear hb; rw [decide_eq_true rfl]
  refine hK _ _ (fun _ => HSS.out _ HB3.out) ?_
  clear hK K
  try simp only [List.set_cons_zero, List.set_cons_succ]
  have hXS := HSS.out _ HB3.out
  refine wpX_take (i := 9) (v := ?_) rfl rfl (by kernel_rfl) (fun _ _ _ h => h) (Or.inl ⟨rfl, fun wS hwS => ?_⟩) hXS ?_
  rotate_left
  · go_simp; try rfl
  simp only [List.set_cons_zero, List.set_cons_succ]
  refine wpX_take (i := 10) (v := ?_) rfl rfl (by kernel_rfl) (fun _ _ _ h => h) (Or.inl ⟨rfl, fun wS hwS => ?_⟩) hXS ?_
  rotate_left
  · go_simp; try rfl
  simp only [List.set_cons_zero, List.set_cons_succ]
  refine wpX_take (i := 11) (v := ?_) rfl rfl (by kernel_rfl) (fun _ _ _ h => h) (Or.inl ⟨rfl, fun wS hwS => ?_⟩) hXS ?_
  rotate_left
  · go_simp; try rfl
  simp only [List.set_cons_zero, List.set_cons_succ]
  refine wpX_take (i := 12) (v := ?_) rfl rfl (by kernel_rfl) (fun _ _ _ h => h) (Or.inl ⟨rfl, fun wS hwS => ?_⟩) hXS ?_
  rotate_left
  · go_simp; try rfl
  simp only [List.set_cons_zero, List.set_cons_succ]
  refine wpX_take (i := 13) (v := ?_) rfl rfl (by kernel_rfl) (fun _ _ _ h => h) (Or.inl ⟨rfl, fun wS hwS => ?_⟩) hXS ?_
  rotate_left
  · go_simp; try rfl
  simp only [List.set_cons_zero, List.set_cons_succ]
  refine wpX_take (i := 14) (v := ?_) rfl rfl (by kernel_rfl) (fun _ _ _ h => h) (Or.inl ⟨rfl, fun wS hwS => ?_⟩) hXS ?_
  rotate_left
  · go_simp; try rfl
  simp only [List.set_cons_zero, List.set_cons_succ]
  refine wpX_take (i := 15) (v := ?_) rfl rfl (by kernel_rfl) (fun _ _ _ h => h) (Or.inl ⟨rfl, fun wS hwS => ?_⟩) hXS ?_
  rotate_left
  · go_simp; try rfl
  simp only [List.set_cons_zero, List.set_cons_succ]
  refine wpX_take (i := 16) (v := ?_) rfl rfl (by kernel_rfl) (fun _ _ _ h => h) (Or.inl ⟨rfl, fun wS hwS => ?_⟩) hXS ?_
  rotate_left
  · go_simp; try rfl
  simp only [List.set_cons_zero, List.set_cons_succ]
  refine wpX_take (i := 17) (v := ?_) rfl rfl (by kernel_rfl) (fun _ _ _ h => h) (Or.inl ⟨rfl, fun wS hwS => ?_⟩) hXS ?_
  rotate_left
  · go_simp; try rfl
  simp only [List.set_cons_zero, List.set_cons_succ]
  refine wpX_take (i := 18) (v := ?_) rfl rfl (by kernel_rfl) (fun _ _ _ h => h) (Or.inl ⟨rfl, fun wS hwS => ?_⟩) hXS ?_
  rotate_left
  · go_simp; try rfl
  simp only [List.set_cons_zero, List.set_cons_succ]
  refine wpX_take (i := 19) (v := ?_) rfl rfl (by kernel_rfl) (fun _ _ _ h => h) (Or.inl ⟨rfl, fun wS hwS => ?_⟩) hXS ?_
  rotate_left
  · go_simp; try rfl
  simp only [List.set_cons_zero, List.set_cons_succ]
  refine wpX_take (i := 20) (v := ?_) rfl rfl (by kernel_rfl) (fun _ _ _ h => h) (Or.inl ⟨rfl, fun wS hwS => ?_⟩) hXS ?_
  rotate_left
  · go_simp; try rfl
  simp only [List.set_cons_zero, List.set_cons_succ]
  refine wpX_take (i := 21) (v := ?_) rfl rfl (by kernel_rfl) (fun _ _ _ h => h) (Or.inl ⟨rfl, fun wS hwS => ?_⟩) hXS ?_
  rotate_left
  · go_simp; try rfl
  simp only [List.set_cons_zero, List.set_cons_succ]
  refine wpX_take (i := 22) (v := ?_) rfl rfl (by kernel_rfl) (fun _ _ _ h => h) (Or.inl ⟨rfl, fun wS hwS => ?_⟩) hXS ?_
  rotate_left
  · go_simp; try rfl
  simp only [List.set_cons_zero, List.set_cons_succ]
  refine wpX_take (i := 23) (v := ?_) rfl rfl (by kernel_rfl) (fun _ _ _ h => h) (Or.inl ⟨rfl, fun wS hwS => ?_⟩) hXS ?_
  rotate_left
  · go_simp; try rfl
  simp only [List.set_cons_zero, List.set_cons_succ]
  refine wpX_take (i := 24) (v := ?_) rfl rfl (by kernel_rfl) (fun _ _ _ h => h) (Or.inl ⟨rfl, fun wS hwS => ?_⟩) hXS ?_
  rotate_left
  · go_simp; try rfl
  simp only [List.set_cons_zero, List.set_cons_succ]
  refine wpX_take (i := 25) (v := ?_) rfl rfl (by kernel_rfl) (fun _ _ _ h => h) (Or.inl ⟨rfl, fun wS hwS => ?_⟩) hXS ?_
  rotate_left
  · go_simp; try rfl
  simp only [List.set_cons_zero, List.set_cons_succ]
  refine wpX_take (i := 26) (v := ?_) rfl rfl (by kernel_rfl) (fun _ _ _ h => h) (Or.inl ⟨rfl, fun wS hwS => ?_⟩) hXS ?_
  rotate_left
  · go_simp; try rfl
  simp only [List.set_cons_zero, List.set_cons_succ]
  refine wpX_take (i := 27) (v := ?_) rfl rfl (by kernel_rfl) (fun _ _ _ h => h) (Or.inl ⟨rfl, fun wS hwS => ?_⟩) hXS ?_
  rotate_left
  · go_simp; try rfl
  simp only [List.set_cons_zero, List.set_cons_succ]
  refine wpX_take (i := 28) (v := ?_) rfl rfl (by kernel_rfl) (fun _ _ _ h => h) (Or.inl ⟨rfl, fun wS hwS => ?_⟩) hXS ?_
  rotate_left
  · go_simp; try rfl
  simp only [List.set_cons_zero, List.set_cons_succ]
  refine wpX_take (i := 29) (v := ?_) rfl rfl (by kernel_rfl) (fun _ _ _ h => h) (Or.inl ⟨rfl, fun wS hwS => ?_⟩) hXS ?_
  rotate_left
  · go_simp; try rfl
  simp only [List.set_cons_zero, List.set_cons_succ]
  refine wpX_take (i := 30) (v := ?_) rfl rfl (by kernel_rfl) (fun _ _ _ h => h) (Or.inl ⟨rfl, fun wS hwS => ?_⟩) hXS ?_
  rotate_left
  · go_simp; try rfl
  simp only [List.set_cons_zero, List.set_cons_succ]
  clear hXS
  refine wpX_hard (k := 31) (by kernel_rfl) rfl (fun K hK => ?_)
  go_simp
  refine (HG.out _).mono ?_; rintro e v4 ⟨rfl, hb⟩; have HB4 := hid (HB3.out.t hb); clear hb
  refine hK _ _ (fun _ => HSS.out _ HB4.out) ?_
  clear hK K
  try simp only [List.set_cons_zero, List.set_cons_succ]
  have hXS := HSS.out _ HB4.out
  refine wpX_take (i := 32) (v := ?_) rfl rfl (by kernel_rfl) (fun _ _ _ h => h) (Or.inl ⟨rfl, fun wS hwS => ?_⟩) hXS ?_
  rotate_left
  · go_simp; try rfl
  simp only [List.set_cons_zero, List.set_cons_succ]
  refine wpX_take (i := 33) (v := ?_) rfl rfl (by kernel_rfl) (fun _ _ _ h => h) (Or.inl ⟨rfl, fun wS hwS => ?_⟩) hXS ?_
  rotate_left
  · go_simp; try rfl
  simp only [List.set_cons_zero, List.set_cons_succ]
  clear hXS
  refine wpX_done (by kernel_rfl) ?_
  go_wp2_with fail
  go_ret
  exact ⟨rfl, HK4.out.t HB4.out⟩
theorem words_law (k d a b v : Int) (A : Option Addr) (n c : Nat) (f : Nat → Int) (w : World) (_ : i64ok k) (_ : i64ok d) (_ : i64ok a) (_ : i64ok b) (v0 : 0 ≤ v) (v1 : v ≤ 18446744073709551615) (_ : n ≤ 9223372036854775807) (hf : ∀ k, k < n → 0 ≤ f k ∧ f k ≤ 18446744073709551615)
    (hr : 0 < n → ∃ b off, A = some ⟨b, off, none⟩ ∧ b < w.heap.size ∧ ∀ k, k < n → w.cell? ⟨b, off + k, none⟩ = some (.int .u64 (f k))) :
    Calls Try.prog 3 #[.agg (opv k d a b v), .slice A n c] w fun e w' => e = .returned (.bool true) ∧ KW w w' := by
  obtain ⟨l, rfl, hb, hr'⟩ := words_in hr hf
  exact owords_walk k d a b v A c l w ⟨v0, v1⟩ hr' hb
end Go.Proofs.Ytnpgiallgcliiaa
