/- Contracts of stride.ahead, back. -/
import Derived.Test.YtkdamcacmecnaaaT2
import Derived.Test.YtkdamcacmecnaaaPlainU
namespace Go.Proofs.Ytkdamcacmecnaaa
open Go.ChangeShapes Go.WideShapes Go.ChangeAt Go.RowKit
set_option linter.unusedVariables false


def actF (u v : Int) : Nat → Value
  | 0 => .int .i64 u
  | _ => .int .i64 v
/-- an answer: an action, or none -/
def AnsP (w : World) (r : Option Mc.Act) (e : Ending) (w' : World) : Prop :=
  e = .returned (.tuple #[.agg #[.int .i64 (r.getD (0, 0)).1, .int .i64 (r.getD (0, 0)).2], .bool r.isSome]) ∧ KW w w'
section
variable {P : Program} {ops : Array Oper} {Q : Exit → Act → World → Prop}
theorem store_act {rest : List Oper} {o : Oper} {a : Act} {W : World} (hgd : o.guard = none) {x y : Operand} (ho : o.op = .store 55 x y) {g : Nat} {u v : Int} {f : Nat → Value} (hx : a.eval x = .pointer (some ⟨g, 0, none⟩)) (hy : a.eval y = .agg #[.int .i64 u, .int .i64 v])
    (hr : W.rowIs g 55 2 f) (h : ∀ W', W'.heap[g]? = some (.cells #[.int .i64 u, .int .i64 v] 55 (0, 0)) → Keep (· = g) W W' → wpList Try.prog ops Q rest (a.put o.dst undef) W') : wpList Try.prog ops Q (o :: rest) a W :=
  wpList_store_is hgd 55 x y ho g 2 55 f (actF u v) #[.int .i64 u, .int .i64 v] hx hy hr (by kernel_rfl) rfl (fun i hi => by
    rcases (show i = 0 ∨ i = 1 by omega) with rfl | rfl <;> rfl) (fun i hi => by
    rcases (show i = 0 ∨ i = 1 by omega) with rfl | rfl <;> rfl) fun W' hrow hk _ => h W' (by rw [whole hrow]; rfl) hk
end

set_option maxRecDepth 100000 in
set_option maxHeartbeats 2000000 in
theorem sahead_any (k : Int) (ended : Bool) (a p : Int) (tags : List Int) (A : Option Addr) (c : Nat) (w : World) (k0 : 0 ≤ k) (k1 : k < 65536) (a0 : 0 ≤ a) (a1 : a ≤ k) (n0 : 1 ≤ tags.length) (n1 : tags.length ≤ 1048576)
    (ht : ∀ i, i < tags.length → -1 ≤ tags.getD i 0) (hr : Row1 w A tags.length fun i => .int .i64 (tags.getD i 0)) :
    Calls Try.prog 53 #[.int .i64 k, .bool ended, .agg #[.int .i64 a, .int .i64 p, .slice A tags.length c]] w (AnsP w (Sd.nxA k ended a tags)) := by
  have HN := hid (fun W => stride_yes k tags.length W k0 k1 (by omega) (by omega))
  have hd := Sd.sd_pos k tags.length
  have hk := ((((KW.refl w).alloc (.cells #[.int .i64 k] 3)).alloc (.cells #[.int .i64 a, .int .i64 p, .slice A tags.length c] 53)).alloc (.cells #[.int .i64 0, .int .i64 0] 55)).alloc (.cells #[.int .i64 (Sd.sd k tags.length)] 3)
  have HB1 := hid (fun W b (h : KW w W) (hc : W.cell? ⟨b, 0, none⟩ = some (.int .i64 (Sd.sd k tags.length))) => best_any 71 72 #[.pointer (some ⟨b, 0, none⟩)] _ _ tags A c W n1 (hr.k h) (fun args W => by kernel_rfl) (fun args W => by kernel_rfl) (fun x => ahead1_any x _ b W hd hc) (fun x y => less_any x y W))
  have HB2 := hid (fun W b (h : KW w W) (hc : W.cell? ⟨b, 0, none⟩ = some (.int .i64 k)) => best_any 73 72 #[.pointer (some ⟨b, 0, none⟩)] _ _ tags A c W n1 (hr.k h) (fun args W => by kernel_rfl) (fun args W => by kernel_rfl) (fun x => ahead2_any x _ b W hc) (fun x y => less_any x y W))
  have HB3 := hid (fun W (h : KW w W) => best_any 74 72 #[] _ _ tags A c W n1 (hr.k h) (fun args W => by kernel_rfl) (fun args W => by kernel_rfl) (fun x => ahead3_any x W) (fun x y => less_any x y W))
  rw [Sd.bst_eq _ k tags fun j hj => by rw [Bool.eq_iff_iff]; simp] at HB2
  rw [Sd.bst_eq _ (-1) tags fun j hj => by have := ht j hj; rw [decide_eq_decide]; omega] at HB3
  have HB1' : Hid (∀ W b, KW w W → W.cell? ⟨b, 0, none⟩ = some (.int .i64 (Sd.sd k tags.length)) → Calls Try.prog 70 #[.slice A tags.length c, .func (.func 71) #[] #[.pointer (some ⟨b, 0, none⟩)], .func (.func 72) #[] #[]] W fun e w' => e = .returned (.int .i64 (Sd.off (Sd.sd k tags.length) tags)) ∧ W = w') := HB1.out
  have hr1 := Sd.slot_lo tags k
  have hr2 := Sd.slot_lo tags (-1)
  have hr0 : -1 ≤ Sd.off (Sd.sd k tags.length) tags ∧ Sd.off (Sd.sd k tags.length) tags < tags.length := by
    rcases Sd.off_cases (Sd.sd k tags.length) tags with ⟨h, _⟩ | ⟨i, hi, h, _⟩ <;> omega
  unfold Sd.nxA
  have hF : (((((w.alloc (.cells #[.int .i64 k] 3)).alloc (.cells #[.int .i64 a, .int .i64 p, .slice A tags.length c] 53)).alloc (.cells #[.int .i64 0, .int .i64 0] 55)).alloc (.cells #[.int .i64 (Sd.sd k tags.length)] 3)).rowIs (w.heap.size + 1 + 1) 55 2 (actF 0 0)) := by
    have h := World.rowIs_alloc ((w.alloc (.cells #[.int .i64 k] 3)).alloc (.cells #[.int .i64 a, .int .i64 p, .slice A tags.length c] 53)) #[.int .i64 0, .int .i64 0] 55 (actF 0 0) fun i hi => by
      rcases (show i = 0 ∨ i = 1 by simp at hi; omega) with rfl | rfl <;> rfl
    simpa using h.alloc _
  have HF := hid hF
  have HK := hid hk
  generalize Sd.off (Sd.sd k tags.length) tags = o at *
  generalize Sd.slot tags k = sk at *
  generalize Sd.slot tags (-1) = sv at *
  generalize Sd.sd k tags.length = d at *
  have hmod := Int.emod_nonneg k (show d ≠ 0 by omega)
  have hmod2 := Int.emod_lt_of_pos k (show 0 < d by omega)
  clear HB1 hF hk hr ht
  by_cases c1 : a < k
  · rw [if_pos c1]
    go_enter Try.func53, Try.ntmps53
    go_wp2_with (go_at_call 22; refine (HN.out _).mono ?_; rintro e w1 ⟨rfl, rfl⟩)
    refine (act_any _ _ _).mono ?_
    rintro e w1 ⟨rfl, hk1⟩
    have HF1 := hid (KW.row hk1 HF.out.lt HF.out)
    have HK1 := hid (HK.out.t hk1)
    clear hk1
    go_wp2_with (refine store_act rfl rfl rfl rfl HF1.out ?_; intro W2 hb2 hkeep)
    exact bodyPost_ret (results_cell_tmp rfl _ _ _ _ _ (0, 0) _ rfl hb2 Try.underlying55 rfl (by kernel_rfl)) rfl ⟨rfl, HK1.out.kept hkeep fun i hi => by omega⟩
  rw [if_neg c1]
  have d1 : decide (a < k) = false := decide_eq_false c1
  clear c1
  by_cases c2 : 0 ≤ o
  · rw [if_pos c2]
    go_enter Try.func53, Try.ntmps53
    go_wp2_with (go_at_call 22; refine (HN.out _).mono ?_; rintro e w1 ⟨rfl, rfl⟩)
    refine (HB1'.out _ _ HK.out (by go_simp)).mono ?_
    rintro e w1 ⟨rfl, rfl⟩
    go_wp2_with fail
    refine (act_any _ _ _).mono ?_
    rintro e w1 ⟨rfl, hk1⟩
    have HF1 := hid (KW.row hk1 HF.out.lt HF.out)
    have HK1 := hid (HK.out.t hk1)
    clear hk1
    go_wp2_with (refine store_act rfl rfl rfl rfl HF1.out ?_; intro W2 hb2 hkeep)
    exact bodyPost_ret (results_cell_tmp rfl _ _ _ _ _ (0, 0) _ rfl hb2 Try.underlying55 rfl (by kernel_rfl)) rfl ⟨rfl, HK1.out.kept hkeep fun i hi => by omega⟩
  rw [if_neg c2]
  have d2 : decide (0 ≤ o) = false := decide_eq_false c2
  clear c2
  by_cases c3 : k % d = 0
  · by_cases c4 : sk < 0
    · by_cases c5 : 0 ≤ sv
      · rw [if_pos ⟨c3, c4, c5⟩]
        have d3 : (k % d == 0) = true := by simpa using c3
        clear c3
        go_enter Try.func53, Try.ntmps53
        go_wp2_with (go_at_call 22; refine (HN.out _).mono ?_; rintro e w1 ⟨rfl, rfl⟩)
        refine (HB1'.out _ _ HK.out (by go_simp)).mono ?_
        rintro e w1 ⟨rfl, rfl⟩
        go_wp2_with fail
        refine (HB2.out _ _ HK.out (by go_simp)).mono ?_
        rintro e w1 ⟨rfl, rfl⟩
        go_wp2_with fail
        refine (HB3.out _ HK.out).mono ?_
        rintro e w1 ⟨rfl, rfl⟩
        go_wp2_with fail
        refine (act_any _ _ _).mono ?_
        rintro e w1 ⟨rfl, hk1⟩
        have HF1 := hid (KW.row hk1 HF.out.lt HF.out)
        have HK1 := hid (HK.out.t hk1)
        clear hk1
        go_wp2_with (refine store_act rfl rfl rfl rfl HF1.out ?_; intro W2 hb2 hkeep)
        exact bodyPost_ret (results_cell_tmp rfl _ _ _ _ _ (0, 0) _ rfl hb2 Try.underlying55 rfl (by kernel_rfl)) rfl ⟨rfl, HK1.out.kept hkeep fun i hi => by omega⟩
      · rw [if_neg (fun h => c5 h.2.2)]
        have d3 : (k % d == 0) = true := by simpa using c3
        have d5 : decide (0 ≤ sv) = false := decide_eq_false c5
        clear c3 c5
        cases ended with
        | false =>
          rw [if_neg (by simp)]
          go_enter Try.func53, Try.ntmps53
          go_wp2_with (go_at_call 22; refine (HN.out _).mono ?_; rintro e w1 ⟨rfl, rfl⟩)
          refine (HB1'.out _ _ HK.out (by go_simp)).mono ?_
          rintro e w1 ⟨rfl, rfl⟩
          go_wp2_with fail
          refine (HB2.out _ _ HK.out (by go_simp)).mono ?_
          rintro e w1 ⟨rfl, rfl⟩
          go_wp2_with fail
          refine (HB3.out _ HK.out).mono ?_
          rintro e w1 ⟨rfl, rfl⟩
          go_wp2_with fail
          refine (nothing_any _).mono ?_
          rintro e w1 ⟨rfl, hk1⟩
          have HF1 := hid (KW.row hk1 HF.out.lt HF.out)
          have HK1 := hid (HK.out.t hk1)
          clear hk1
          go_wp2_with (refine store_act rfl rfl rfl rfl HF1.out ?_; intro W2 hb2 hkeep)
          exact bodyPost_ret (results_cell_tmp rfl _ _ _ _ _ (0, 0) _ rfl hb2 Try.underlying55 rfl (by kernel_rfl)) rfl ⟨rfl, HK1.out.kept hkeep fun i hi => by omega⟩
        | true =>
          rw [if_pos rfl]
          go_enter Try.func53, Try.ntmps53
          go_wp2_with (go_at_call 22; refine (HN.out _).mono ?_; rintro e w1 ⟨rfl, rfl⟩)
          refine (HB1'.out _ _ HK.out (by go_simp)).mono ?_
          rintro e w1 ⟨rfl, rfl⟩
          go_wp2_with fail
          refine (HB2.out _ _ HK.out (by go_simp)).mono ?_
          rintro e w1 ⟨rfl, rfl⟩
          go_wp2_with fail
          refine (HB3.out _ HK.out).mono ?_
          rintro e w1 ⟨rfl, rfl⟩
          go_wp2_with fail
          refine (act_any _ _ _).mono ?_
          rintro e w1 ⟨rfl, hk1⟩
          have HF1 := hid (KW.row hk1 HF.out.lt HF.out)
          have HK1 := hid (HK.out.t hk1)
          clear hk1
          go_wp2_with (refine store_act rfl rfl rfl rfl HF1.out ?_; intro W2 hb2 hkeep)
          exact bodyPost_ret (results_cell_tmp rfl _ _ _ _ _ (0, 0) _ rfl hb2 Try.underlying55 rfl (by kernel_rfl)) rfl ⟨rfl, HK1.out.kept hkeep fun i hi => by omega⟩
    · rw [if_neg (fun h => c4 h.2.1)]
      have d3 : (k % d == 0) = true := by simpa using c3
      have d4 : decide (sk < 0) = false := decide_eq_false c4
      clear c3 c4
      cases ended with
      | false =>
        rw [if_neg (by simp)]
        go_enter Try.func53, Try.ntmps53
        go_wp2_with (go_at_call 22; refine (HN.out _).mono ?_; rintro e w1 ⟨rfl, rfl⟩)
        refine (HB1'.out _ _ HK.out (by go_simp)).mono ?_
        rintro e w1 ⟨rfl, rfl⟩
        go_wp2_with fail
        refine (HB2.out _ _ HK.out (by go_simp)).mono ?_
        rintro e w1 ⟨rfl, rfl⟩
        go_wp2_with fail
        refine (HB3.out _ HK.out).mono ?_
        rintro e w1 ⟨rfl, rfl⟩
        go_wp2_with fail
        refine (nothing_any _).mono ?_
        rintro e w1 ⟨rfl, hk1⟩
        have HF1 := hid (KW.row hk1 HF.out.lt HF.out)
        have HK1 := hid (HK.out.t hk1)
        clear hk1
        go_wp2_with (refine store_act rfl rfl rfl rfl HF1.out ?_; intro W2 hb2 hkeep)
        exact bodyPost_ret (results_cell_tmp rfl _ _ _ _ _ (0, 0) _ rfl hb2 Try.underlying55 rfl (by kernel_rfl)) rfl ⟨rfl, HK1.out.kept hkeep fun i hi => by omega⟩
      | true =>
        rw [if_pos rfl]
        go_enter Try.func53, Try.ntmps53
        go_wp2_with (go_at_call 22; refine (HN.out _).mono ?_; rintro e w1 ⟨rfl, rfl⟩)
        refine (HB1'.out _ _ HK.out (by go_simp)).mono ?_
        rintro e w1 ⟨rfl, rfl⟩
        go_wp2_with fail
        refine (HB2.out _ _ HK.out (by go_simp)).mono ?_
        rintro e w1 ⟨rfl, rfl⟩
        go_wp2_with fail
        refine (HB3.out _ HK.out).mono ?_
        rintro e w1 ⟨rfl, rfl⟩
        go_wp2_with fail
        refine (act_any _ _ _).mono ?_
        rintro e w1 ⟨rfl, hk1⟩
        have HF1 := hid (KW.row hk1 HF.out.lt HF.out)
        have HK1 := hid (HK.out.t hk1)
        clear hk1
        go_wp2_with (refine store_act rfl rfl rfl rfl HF1.out ?_; intro W2 hb2 hkeep)
        exact bodyPost_ret (results_cell_tmp rfl _ _ _ _ _ (0, 0) _ rfl hb2 Try.underlying55 rfl (by kernel_rfl)) rfl ⟨rfl, HK1.out.kept hkeep fun i hi => by omega⟩
  · rw [if_neg (fun h => c3 h.1)]
    have d3 : (k % d == 0) = false := by simpa using c3
    clear c3
    cases ended with
    | false =>
      rw [if_neg (by simp)]
      go_enter Try.func53, Try.ntmps53
      go_wp2_with (go_at_call 22; refine (HN.out _).mono ?_; rintro e w1 ⟨rfl, rfl⟩)
      refine (HB1'.out _ _ HK.out (by go_simp)).mono ?_
      rintro e w1 ⟨rfl, rfl⟩
      go_wp2_with fail
      refine (HB2.out _ _ HK.out (by go_simp)).mono ?_
      rintro e w1 ⟨rfl, rfl⟩
      go_wp2_with fail
      refine (HB3.out _ HK.out).mono ?_
      rintro e w1 ⟨rfl, rfl⟩
      go_wp2_with fail
      refine (nothing_any _).mono ?_
      rintro e w1 ⟨rfl, hk1⟩
      have HF1 := hid (KW.row hk1 HF.out.lt HF.out)
      have HK1 := hid (HK.out.t hk1)
      clear hk1
      go_wp2_with (refine store_act rfl rfl rfl rfl HF1.out ?_; intro W2 hb2 hkeep)
      exact bodyPost_ret (results_cell_tmp rfl _ _ _ _ _ (0, 0) _ rfl hb2 Try.underlying55 rfl (by kernel_rfl)) rfl ⟨rfl, HK1.out.kept hkeep fun i hi => by omega⟩
    | true =>
      rw [if_pos rfl]
      go_enter Try.func53, Try.ntmps53
      go_wp2_with (go_at_call 22; refine (HN.out _).mono ?_; rintro e w1 ⟨rfl, rfl⟩)
      refine (HB1'.out _ _ HK.out (by go_simp)).mono ?_
      rintro e w1 ⟨rfl, rfl⟩
      go_wp2_with fail
      refine (HB2.out _ _ HK.out (by go_simp)).mono ?_
      rintro e w1 ⟨rfl, rfl⟩
      go_wp2_with fail
      refine (HB3.out _ HK.out).mono ?_
      rintro e w1 ⟨rfl, rfl⟩
      go_wp2_with fail
      refine (act_any _ _ _).mono ?_
      rintro e w1 ⟨rfl, hk1⟩
      have HF1 := hid (KW.row hk1 HF.out.lt HF.out)
      have HK1 := hid (HK.out.t hk1)
      clear hk1
      go_wp2_with (refine store_act rfl rfl rfl rfl HF1.out ?_; intro W2 hb2 hkeep)
      exact bodyPost_ret (results_cell_tmp rfl _ _ _ _ _ (0, 0) _ rfl hb2 Try.underlying55 rfl (by kernel_rfl)) rfl ⟨rfl, HK1.out.kept hkeep fun i hi => by omega⟩
end Go.Proofs.Ytkdamcacmecnaaa
