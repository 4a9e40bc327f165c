/- The walk of DualRules. -/
import Derived.Test.YtkgcipgnpknbdaaD8
import Derived.Test.YtkgcipgnpknbdaaMany
import Derived.Test.YtkgcipgnpknbdaaL0
namespace Go.Proofs.Ytkgcipgnpknbdaa
open Go.ChangeShapes Go.WideShapes Go.ChangeAt Go.RowKit
set_option linter.unusedVariables false

/-- what is known of a value: it is v; it is a slice of a new block, of those cells -/
def IsV (v : Value) (u : Value) (_ : World) : Prop := u = v
def IsR1 (n : Nat) (f : Nat → Int) (u : Value) (w : World) : Prop := ∃ g, u = .slice (some ⟨g, 0, none⟩) n n ∧ Row1 w (some ⟨g, 0, none⟩) n fun k => .int .u64 (f k)
def IsR2 (n : Nat) (f g : Nat → Int) (u : Value) (w : World) : Prop := ∃ b, u = .slice (some ⟨b, 0, none⟩) n n ∧ Row2 w (some ⟨b, 0, none⟩) n (fun k => .int .u64 (f k)) (fun k => .int .u64 (g k))
def IsNew (B : Nat) (o : Obj) (u : Value) (w : World) : Prop := ∃ g, u = .pointer (some ⟨g, 0, none⟩) ∧ B ≤ g ∧ w.heap[g]? = some o
theorem IsV.keep {v u : Value} {w w' : World} (h : IsV v u w) (_ : KW w w') : IsV v u w' := h
theorem IsR1.keep {n : Nat} {f : Nat → Int} {u : Value} {w w' : World} (h : IsR1 n f u w) (k : KW w w') : IsR1 n f u w' := by
  obtain ⟨g, e, r⟩ := h; exact ⟨g, e, r.below k⟩
theorem IsR2.keep {n : Nat} {f g : Nat → Int} {u : Value} {w w' : World} (h : IsR2 n f g u w) (k : KW w w') : IsR2 n f g u w' := by
  obtain ⟨b, e, r⟩ := h; exact ⟨b, e, r.below k⟩
theorem IsNew.keep {B : Nat} {o : Obj} {u : Value} {w w' : World} (h : IsNew B o u w) (k : KW w w') : IsNew B o u w' := by
  obtain ⟨g, e, hB, r⟩ := h; exact ⟨g, e, hB, (Below.block k g (Array.getElem?_eq_some_iff.1 r).1).trans r⟩
theorem kwR (w : World) : KW w w := KW.refl w

theorem rules_eqs (av ad bv bd k : Int) (h0 : 0 ≤ av) (h1 : av ≤ 18446744073709551615) (g0 : 0 ≤ ad) (g1 : ad ≤ 18446744073709551615) :
    IntKind.u64.wrap (bv * av) = IntKind.u64.wrap (av * bv) ∧ IntKind.u64.wrap (bv * ad + bd * av) = IntKind.u64.wrap (av * bd + ad * bv) ∧
    IntKind.u64.wrap (IntKind.u64.wrap (av * bd) + IntKind.u64.wrap (ad * bv)) = IntKind.u64.wrap (av * bd + ad * bv) ∧
    IntKind.u64.wrap (av * IntKind.u64.wrap (k * bd) + IntKind.u64.wrap (k * ad) * bv) = IntKind.u64.wrap (k * IntKind.u64.wrap (av * bd + ad * bv)) ∧
    IntKind.u64.wrap (IntKind.u64.wrap (av + bv) - bv) = av ∧ IntKind.u64.wrap (IntKind.u64.wrap (ad + bd) - bd) = ad := by
  refine ⟨by rw [Int.mul_comm], by congr 1; grind, by rw [Pl.uw_addl, Pl.uw_addr], ?_, ?_, ?_⟩
  · rw [Pl.uw_mulr]
    refine (Pl.uw2 (Pl.uwm rfl (Pl.uw_uw _)) (Pl.uwm (Pl.uw_uw _) rfl)).trans ?_
    congr 1
    grind
  · rw [Pl.uw_subl, Int.add_sub_cancel, Pl.uw_id h0 h1]
  · rw [Pl.uw_subl, Int.add_sub_cancel, Pl.uw_id g0 g1]

set_option maxHeartbeats 4000000 in
theorem rules_walk (av ad bv bd k : Int) (w : World) (ha0 : 0 ≤ av) (ha1 : av ≤ 18446744073709551615) (hb0 : 0 ≤ ad) (hb1 : ad ≤ 18446744073709551615) (hc0 : 0 ≤ bv) (hc1 : bv ≤ 18446744073709551615) (hd0 : 0 ≤ bd) (hd1 : bd ≤ 18446744073709551615)
    (hk0 : 0 ≤ k) (hk1 : k ≤ 18446744073709551615) :
    Calls Try.prog 7 #[.agg #[.int .u64 av, .int .u64 ad], .agg #[.int .u64 bv, .int .u64 bd], .int .u64 k] w fun e w' => e = .returned (.bool true) ∧ Below w.heap.size w w' := by
  have HE := hid (rules_eqs av ad bv bd k ha0 ha1 hb0 hb1)
  have HM := hid (fun g W hr => dmul2 g av ad bv bd W hr)
  have HQ := hid (fun g W hr => dmul2 g av (IntKind.u64.wrap (k * ad)) bv (IntKind.u64.wrap (k * bd)) W hr)
  have HN := hid (fun g W hr => rmul2 g av bv W hr)
  generalize hpv : IntKind.u64.wrap (av * bv) = pv at *
  generalize hpd : IntKind.u64.wrap (av * bd + ad * bv) = pd at *
  generalize hqd : IntKind.u64.wrap (av * IntKind.u64.wrap (k * bd) + IntKind.u64.wrap (k * ad) * bv) = qd at *
  have HP := hid (And.intro hpv (And.intro hpd hqd))
  clear hpv hpd hqd
  go_enter Try.func7, Try.ntmps7
  go_wp2_with fail
  refine (HM.out _ _ (row2_at _ _ _ _ _ _ _ (by simp))).mono ?_
  rintro e w1 ⟨rfl, hb⟩
  have hk := (((KW.refl w).alloc (.cells #[.int .u64 av, .int .u64 ad] 25)).alloc (.cells #[.int .u64 bv, .int .u64 bd] 25)).onA hb
  have hX := (KW.refl ((w.alloc (.cells #[.int .u64 av, .int .u64 ad] 25)).alloc (.cells #[.int .u64 bv, .int .u64 bd] 25))).onA hb
  have hXs := hX.size
  have x0 := hX.cell (b := w.heap.size) (o := 0) (v := .int .u64 av) (by simp; omega) (by go_simp)
  have x1 := hX.cell (b := w.heap.size) (o := 1) (v := .int .u64 ad) (by simp; omega) (by go_simp)
  have x2 := hX.cell (b := w.heap.size + 1) (o := 0) (v := .int .u64 bv) (by simp) (by go_simp)
  have x3 := hX.cell (b := w.heap.size + 1) (o := 1) (v := .int .u64 bd) (by simp) (by go_simp)
  have hXs2 : w.heap.size + 1 + 1 ≤ w1.heap.size := by simpa using hXs
  clear hb hX hXs
  go_wp2_with fail
  refine wp_world (fun W => KW w W ∧ w1.heap.size < W.heap.size ∧ W.cell? ⟨w1.heap.size, 0, none⟩ = some (.int .u64 pv) ∧ W.cell? ⟨w1.heap.size, 1, none⟩ = some (.int .u64 pd) ∧ W.cell? ⟨w.heap.size, 0, none⟩ = some (.int .u64 av) ∧ W.cell? ⟨w.heap.size, 1, none⟩ = some (.int .u64 ad) ∧ W.cell? ⟨w.heap.size + 1, 0, none⟩ = some (.int .u64 bv) ∧ W.cell? ⟨w.heap.size + 1, 1, none⟩ = some (.int .u64 bd))
    ⟨hk.alloc _, by simp, by go_simp, by go_simp, al_cell x0, al_cell x1, al_cell x2, al_cell x3⟩ ?_
  rintro W ⟨hkW, hp, p0, p1, a0, a1, b0, b1⟩
  clear hk x0 x1 x2 x3
  have ha : w.heap.size < W.heap.size := by omega
  have hbb : w.heap.size + 1 < W.heap.size := by omega
  have hq := KW.refl W
  generalize w1.heap.size = P at *
  refine wpX_region (S := fun w' => w'.cell? ⟨P, 0, none⟩ = some (.int .u64 pv) ∧ w'.cell? ⟨P, 1, none⟩ = some (.int .u64 pd) ∧ w'.cell? ⟨w.heap.size, 0, none⟩ = some (.int .u64 av) ∧ w'.cell? ⟨w.heap.size, 1, none⟩ = some (.int .u64 ad) ∧ w'.cell? ⟨w.heap.size + 1, 0, none⟩ = some (.int .u64 bv) ∧ w'.cell? ⟨w.heap.size + 1, 1, none⟩ = some (.int .u64 bd)) (L := 99) (by kernel_rfl) ?_
  have hXS := And.intro (hq.cell hp p0) (And.intro (hq.cell hp p1) (And.intro (hq.cell ha a0) (And.intro (hq.cell ha a1) (And.intro (hq.cell hbb b0) (hq.cell hbb b1)))))
  refine wpX_take (i := 0) (v := ?_) rfl rfl (by kernel_rfl) (fun _ _ _ h => h) (Or.inl ⟨rfl, fun wS hwS => ?_⟩) hXS ?_
  rotate_left
  · go_simp; try rfl
  simp only [List.set_cons_zero, List.set_cons_succ]
  refine wpX_take (i := 1) (v := ?_) rfl rfl (by kernel_rfl) (fun _ _ _ h => h) (Or.inl ⟨rfl, fun wS hwS => ?_⟩) hXS ?_
  rotate_left
  · go_simp; try rfl
  simp only [List.set_cons_zero, List.set_cons_succ]
  refine wpX_take (i := 2) (v := ?_) rfl rfl (by kernel_rfl) (fun _ _ _ h => h) (Or.inl ⟨rfl, fun wS hwS => ?_⟩) hXS ?_
  rotate_left
  · go_simp; try rfl
  simp only [List.set_cons_zero, List.set_cons_succ]
  refine wpX_hard (k := 3) (by kernel_rfl) rfl (fun K hK => ?_)
  go_simp
  refine hK _ _ (fun _ => And.intro (al_cell (hq.cell hp p0)) (And.intro (al_cell (hq.cell hp p1)) (And.intro (al_cell (hq.cell ha a0)) (And.intro (al_cell (hq.cell ha a1)) (And.intro (al_cell (hq.cell hbb b0)) (al_cell (hq.cell hbb b1))))))) ?_
  clear hK K
  try simp only [List.set_cons_zero, List.set_cons_succ]
  refine wpX_hard (k := 4) (by kernel_rfl) rfl (fun K hK => ?_)
  go_simp
  (refine (dmul2 _ bv bd av ad _ (by exact row2_at _ _ bv bd av ad _ (by simp))).mono ?_; rw [HE.out.1, HE.out.2.1]; rintro e w2 ⟨rfl, hb⟩; (try replace hb := undrew hb); replace hq := hq.onA hb; clear hb; replace hXS := And.intro (hq.cell hp p0) (And.intro (hq.cell hp p1) (And.intro (hq.cell ha a0) (And.intro (hq.cell ha a1) (And.intro (hq.cell hbb b0) (hq.cell hbb b1))))))
  refine hK _ _ (fun _ => hXS) ?_
  clear hK K
  try simp only [List.set_cons_zero, List.set_cons_succ]
  refine wpX_take (i := 5) (v := ?_) rfl rfl (by kernel_rfl) (fun _ _ _ h => h) (Or.inl ⟨rfl, fun wS hwS => ?_⟩) hXS ?_
  rotate_left
  · go_simp; try rfl
  simp only [List.set_cons_zero, List.set_cons_succ]
  refine wpX_take (i := 6) (v := ?_) rfl rfl (by kernel_rfl) (fun _ _ _ h => h) (Or.inl ⟨rfl, fun wS hwS => ?_⟩) hXS ?_
  rotate_left
  · go_simp; try rfl
  simp only [List.set_cons_zero, List.set_cons_succ]
  refine wpX_take (i := 7) (v := ?_) rfl rfl (by kernel_rfl) (fun _ _ _ h => h) (Or.inl ⟨rfl, fun wS hwS => ?_⟩) hXS ?_
  rotate_left
  · go_simp; try rfl
  simp only [List.set_cons_zero, List.set_cons_succ]
  refine wpX_take (i := 8) (v := ?_) rfl rfl (by kernel_rfl) (fun _ _ _ h => h) (Or.inl ⟨rfl, fun wS hwS => ?_⟩) hXS ?_
  rotate_left
  · go_simp; try rfl
  simp only [List.set_cons_zero, List.set_cons_succ]
  refine wpX_take (i := 9) (v := ?_) rfl rfl (by kernel_rfl) (fun _ _ _ h => h) (Or.inl ⟨rfl, fun wS hwS => ?_⟩) hXS ?_
  rotate_left
  · go_simp; try rfl
  simp only [List.set_cons_zero, List.set_cons_succ]
  refine wpX_take (i := 10) (v := ?_) rfl rfl (by kernel_rfl) (fun _ _ _ h => h) (Or.inl ⟨rfl, fun wS hwS => ?_⟩) hXS ?_
  rotate_left
  · go_simp; try rfl
  simp only [List.set_cons_zero, List.set_cons_succ]
  refine wpX_take (i := 11) (v := ?_) rfl rfl (by kernel_rfl) (fun _ _ _ h => h) (Or.inl ⟨rfl, fun wS hwS => ?_⟩) hXS ?_
  rotate_left
  · go_simp; try rfl
  simp only [List.set_cons_zero, List.set_cons_succ]
  refine wpX_take (i := 12) (v := ?_) rfl rfl (by kernel_rfl) (fun _ _ _ h => h) (Or.inl ⟨rfl, fun wS hwS => ?_⟩) hXS ?_
  rotate_left
  · go_simp; try rfl
  simp only [List.set_cons_zero, List.set_cons_succ]
  refine wpX_hard (k := 13) (by kernel_rfl) rfl (fun K hK => ?_)
  go_simp
  refine hK _ _ (fun _ => And.intro (al_cell (hq.cell hp p0)) (And.intro (al_cell (hq.cell hp p1)) (And.intro (al_cell (hq.cell ha a0)) (And.intro (al_cell (hq.cell ha a1)) (And.intro (al_cell (hq.cell hbb b0)) (al_cell (hq.cell hbb b1))))))) ?_
  clear hK K
  try simp only [List.set_cons_zero, List.set_cons_succ]
  refine wpX_hard (k := 14) (by kernel_rfl) rfl (fun K hK => ?_)
  go_simp
  (refine (HN.out _ _ (row1_sel _ _ av bv _ (by simp))).mono ?_; rintro e w3 ⟨rfl, hb⟩; (try replace hb := undrew hb); replace hq := hq.onA hb; clear hb; replace hXS := And.intro (hq.cell hp p0) (And.intro (hq.cell hp p1) (And.intro (hq.cell ha a0) (And.intro (hq.cell ha a1) (And.intro (hq.cell hbb b0) (hq.cell hbb b1))))))
  refine hK _ _ (fun _ => hXS) ?_
  clear hK K
  try simp only [List.set_cons_zero, List.set_cons_succ]
  refine wpX_take (i := 15) (v := ?_) rfl rfl (by kernel_rfl) (fun _ _ _ h => h) (Or.inl ⟨rfl, fun wS hwS => ?_⟩) hXS ?_
  rotate_left
  · go_simp; try rfl
  simp only [List.set_cons_zero, List.set_cons_succ]
  refine wpX_take (i := 16) (v := ?_) rfl rfl (by kernel_rfl) (fun _ _ _ h => h) (Or.inl ⟨rfl, fun wS hwS => ?_⟩) hXS ?_
  rotate_left
  · go_simp; try rfl
  simp only [List.set_cons_zero, List.set_cons_succ]
  refine wpX_take (i := 17) (v := ?_) rfl rfl (by kernel_rfl) (fun _ _ _ h => h) (Or.inl ⟨rfl, fun wS hwS => ?_⟩) hXS ?_
  rotate_left
  · go_simp; try rfl
  simp only [List.set_cons_zero, List.set_cons_succ]
  refine wpX_take (i := 18) (v := ?_) rfl rfl (by kernel_rfl) (fun _ _ _ h => h) (Or.inl ⟨rfl, fun wS hwS => ?_⟩) hXS ?_
  rotate_left
  · go_simp; try rfl
  simp only [List.set_cons_zero, List.set_cons_succ]
  refine wpX_take (i := 19) (v := ?_) rfl rfl (by kernel_rfl) (fun _ _ _ h => h) (Or.inl ⟨rfl, fun wS hwS => ?_⟩) hXS ?_
  rotate_left
  · go_simp; try rfl
  simp only [List.set_cons_zero, List.set_cons_succ]
  refine wpX_take (i := 20) (v := ?_) rfl rfl (by kernel_rfl) (fun _ _ _ h => h) (Or.inl ⟨rfl, fun wS hwS => ?_⟩) hXS ?_
  rotate_left
  · go_simp; try rfl
  simp only [List.set_cons_zero, List.set_cons_succ]
  refine wpX_take (i := 21) (v := ?_) rfl rfl (by kernel_rfl) (fun _ _ _ h => h) (Or.inl ⟨rfl, fun wS hwS => ?_⟩) hXS ?_
  rotate_left
  · go_simp; try rfl
  simp only [List.set_cons_zero, List.set_cons_succ]
  refine wpX_take (i := 22) (v := ?_) rfl rfl (by kernel_rfl) (fun _ _ _ h => h) (Or.inl ⟨rfl, fun wS hwS => ?_⟩) hXS ?_
  rotate_left
  · go_simp; try rfl
  simp only [List.set_cons_zero, List.set_cons_succ]
  refine wpX_take (i := 23) (v := ?_) rfl rfl (by kernel_rfl) (fun _ _ _ h => h) (Or.inl ⟨rfl, fun wS hwS => ?_⟩) hXS ?_
  rotate_left
  · go_simp; try rfl
  simp only [List.set_cons_zero, List.set_cons_succ]
  refine wpX_take (i := 26) (v := ?_) rfl rfl (by kernel_rfl) (fun _ _ _ h => h) (Or.inl ⟨rfl, fun wS hwS => ?_⟩) hXS ?_
  rotate_left
  · go_simp; try rfl
  simp only [List.set_cons_zero, List.set_cons_succ]
  refine wpX_take (i := 27) (v := ?_) rfl rfl (by kernel_rfl) (fun _ _ _ h => h) (Or.inl ⟨rfl, fun wS hwS => ?_⟩) hXS ?_
  rotate_left
  · go_simp; try rfl
  simp only [List.set_cons_zero, List.set_cons_succ]
  refine wpX_take (i := 28) (v := ?_) rfl rfl (by kernel_rfl) (fun _ _ _ h => h) (Or.inl ⟨rfl, fun wS hwS => ?_⟩) hXS ?_
  rotate_left
  · go_simp; try rfl
  simp only [List.set_cons_zero, List.set_cons_succ]
  refine wpX_take (i := 29) (v := ?_) rfl rfl (by kernel_rfl) (fun _ _ _ h => h) (Or.inl ⟨rfl, fun wS hwS => ?_⟩) hXS ?_
  rotate_left
  · go_simp; try rfl
  simp only [List.set_cons_zero, List.set_cons_succ]
  refine wpX_many [(24, 37), (25, 38), (30, 43), (31, 44), (32, 45), (33, 46), (34, 47), (35, 48)]
    (fun i => match i with
      | 24 => IsR1 2 (sel av bd) | 25 => IsV (.int .u64 (IntKind.u64.wrap (av * bd))) | 30 => IsR1 2 (sel ad bv) | 31 => IsV (.int .u64 (IntKind.u64.wrap (ad * bv)))
      | 32 => IsR1 2 (sel (IntKind.u64.wrap (av * bd)) (IntKind.u64.wrap (ad * bv))) | 33 => IsV (.int .u64 pd) | _ => IsV (.bool false))
    W 0 rfl (by kernel_rfl) (by kernel_rfl) (fun w' hq => And.intro (hq.cell hp p0) (And.intro (hq.cell hp p1) (And.intro (hq.cell ha a0) (And.intro (hq.cell ha a1) (And.intro (hq.cell hbb b0) (hq.cell hbb b1))))))
    (by (refine List.forall_mem_cons.2 ⟨fun _ _ _ h k => ?_, List.forall_mem_cons.2 ⟨fun _ _ _ h k => ?_, List.forall_mem_cons.2 ⟨fun _ _ _ h k => ?_, List.forall_mem_cons.2 ⟨fun _ _ _ h k => ?_, List.forall_mem_cons.2 ⟨fun _ _ _ h k => ?_, List.forall_mem_cons.2 ⟨fun _ _ _ h k => ?_, List.forall_mem_cons.2 ⟨fun _ _ _ h k => ?_, List.forall_mem_cons.2 ⟨fun _ _ _ h k => ?_, List.forall_mem_nil _⟩⟩⟩⟩⟩⟩⟩⟩) <;> first | exact IsV.keep h k | exact IsR1.keep h k)
    hq ?_ ?_
  · clear hXS hq hkW
    refine List.forall_mem_cons.2 ⟨?_, List.forall_mem_cons.2 ⟨?_, List.forall_mem_cons.2 ⟨?_, List.forall_mem_cons.2 ⟨?_, List.forall_mem_cons.2 ⟨?_, List.forall_mem_cons.2 ⟨?_, List.forall_mem_cons.2 ⟨?_, List.forall_mem_cons.2 ⟨?_, List.forall_mem_nil _⟩⟩⟩⟩⟩⟩⟩⟩
    · skip
      intro x V hV hx
      clear hx
      refine wpX_op (tv := ?_) rfl ?_ (fun K hK => ?_)
      rotate_left
      · simp only [upd, List.foldl_cons, List.foldl_nil, List.set_cons_zero, List.set_cons_succ]; rfl
      simp only [List.set_cons_zero, List.set_cons_succ] at hK
      go_simp
      exact hK _ _ (KW.alloc (kwR _) _) ⟨_, rfl, row1_sel _ _ av bd _ rfl⟩
    · skip
      intro x V hV hx
      have h24 := hx (24, 37) (by simp) (by kernel_rfl)
      clear hx
      refine wpX_op (tv := ?_) rfl ?_ (fun K hK => ?_)
      rotate_left
      · simp only [upd, List.foldl_cons, List.foldl_nil, List.set_cons_zero, List.set_cons_succ]; rfl
      simp only [List.set_cons_zero, List.set_cons_succ] at hK
      skip
      obtain ⟨g24, e24, r24⟩ := h24
      have ze24 : _ = _ := e24; simp only [ze24] at hK ⊢
      go_simp
      refine (rmul2 g24 av bd _ r24).mono ?_
      rintro e w4 ⟨rfl, hb⟩
      exact hK _ _ hb rfl
    · skip
      intro x V hV hx
      clear hx
      refine wpX_op (tv := ?_) rfl ?_ (fun K hK => ?_)
      rotate_left
      · simp only [upd, List.foldl_cons, List.foldl_nil, List.set_cons_zero, List.set_cons_succ]; rfl
      simp only [List.set_cons_zero, List.set_cons_succ] at hK
      go_simp
      exact hK _ _ (KW.alloc (kwR _) _) ⟨_, rfl, row1_sel _ _ ad bv _ rfl⟩
    · skip
      intro x V hV hx
      have h30 := hx (30, 43) (by simp) (by kernel_rfl)
      clear hx
      refine wpX_op (tv := ?_) rfl ?_ (fun K hK => ?_)
      rotate_left
      · simp only [upd, List.foldl_cons, List.foldl_nil, List.set_cons_zero, List.set_cons_succ]; rfl
      simp only [List.set_cons_zero, List.set_cons_succ] at hK
      skip
      obtain ⟨g30, e30, r30⟩ := h30
      have ze30 : _ = _ := e30; simp only [ze30] at hK ⊢
      go_simp
      refine (rmul2 g30 ad bv _ r30).mono ?_
      rintro e w4 ⟨rfl, hb⟩
      exact hK _ _ hb rfl
    · skip
      intro x V hV hx
      have h25 := hx (25, 38) (by simp) (by kernel_rfl)
      have h31 := hx (31, 44) (by simp) (by kernel_rfl)
      clear hx
      refine wpX_op (tv := ?_) rfl ?_ (fun K hK => ?_)
      rotate_left
      · simp only [upd, List.foldl_cons, List.foldl_nil, List.set_cons_zero, List.set_cons_succ]; rfl
      simp only [List.set_cons_zero, List.set_cons_succ] at hK
      skip
      have zh25 : _ = _ := h25; simp only [zh25] at hK ⊢
      have zh31 : _ = _ := h31; simp only [zh31] at hK ⊢
      go_simp
      exact hK _ _ (KW.alloc (kwR _) _) ⟨_, rfl, row1_sel _ _ _ _ _ rfl⟩
    · skip
      intro x V hV hx
      have h32 := hx (32, 45) (by simp) (by kernel_rfl)
      clear hx
      refine wpX_op (tv := ?_) rfl ?_ (fun K hK => ?_)
      rotate_left
      · simp only [upd, List.foldl_cons, List.foldl_nil, List.set_cons_zero, List.set_cons_succ]; rfl
      simp only [List.set_cons_zero, List.set_cons_succ] at hK
      skip
      obtain ⟨g32, e32, r32⟩ := h32
      have ze32 : _ = _ := e32; simp only [ze32] at hK ⊢
      go_simp
      refine (radd2 g32 _ _ _ r32).mono ?_
      rw [HE.out.2.2.1]
      rintro e w4 ⟨rfl, hb⟩
      exact hK _ _ hb rfl
    · skip
      intro x V hV hx
      have h33 := hx (33, 46) (by simp) (by kernel_rfl)
      clear hx
      refine wpX_op (tv := ?_) rfl ?_ (fun K hK => ?_)
      rotate_left
      · simp only [upd, List.foldl_cons, List.foldl_nil, List.set_cons_zero, List.set_cons_succ]; rfl
      simp only [List.set_cons_zero, List.set_cons_succ] at hK
      skip
      have zh33 : _ = _ := h33; simp only [zh33] at hK ⊢
      go_simp
      exact hK _ _ (kwR _) rfl
    · skip
      intro x V hV hx
      have h34 := hx (34, 47) (by simp) (by kernel_rfl)
      clear hx
      refine wpX_op (tv := ?_) rfl ?_ (fun K hK => ?_)
      rotate_left
      · simp only [upd, List.foldl_cons, List.foldl_nil, List.set_cons_zero, List.set_cons_succ]; rfl
      simp only [List.set_cons_zero, List.set_cons_succ] at hK
      skip
      have zh34 : _ = _ := h34; simp only [zh34] at hK ⊢
      go_simp
      exact hK _ _ (kwR _) rfl
  clear hXS hq
  intro x W2 hq hx
  have h34 := hx (34, 47) (by simp)
  have h35 := hx (35, 48) (by simp)
  clear hx
  simp only [upd, List.foldl_cons, List.foldl_nil, List.set_cons_zero, List.set_cons_succ]
  have zh34 : _ = _ := h34; simp only [zh34]; clear zh34
  have zh35 : _ = _ := h35; simp only [zh35]; clear zh35
  refine wpX_done (by kernel_rfl) ?_
  go_wp2_with fail
  clear h34 h35
  have hXS := And.intro (hq.cell hp p0) (And.intro (hq.cell hp p1) (And.intro (hq.cell ha a0) (And.intro (hq.cell ha a1) (And.intro (hq.cell hbb b0) (hq.cell hbb b1)))))
  refine wpX_region (S := fun w' => w'.cell? ⟨P, 0, none⟩ = some (.int .u64 pv) ∧ w'.cell? ⟨P, 1, none⟩ = some (.int .u64 pd) ∧ w'.cell? ⟨w.heap.size, 0, none⟩ = some (.int .u64 av) ∧ w'.cell? ⟨w.heap.size, 1, none⟩ = some (.int .u64 ad) ∧ w'.cell? ⟨w.heap.size + 1, 0, none⟩ = some (.int .u64 bv) ∧ w'.cell? ⟨w.heap.size + 1, 1, none⟩ = some (.int .u64 bd)) (L := 19) (by kernel_rfl) ?_
  refine wpX_take (i := 0) (v := ?_) rfl rfl (by kernel_rfl) (fun _ _ _ h => h) (Or.inl ⟨rfl, fun wS hwS => ?_⟩) hXS ?_
  rotate_left
  · go_simp; try rfl
  simp only [List.set_cons_zero, List.set_cons_succ]
  refine wpX_take (i := 1) (v := ?_) rfl rfl (by kernel_rfl) (fun _ _ _ h => h) (Or.inl ⟨rfl, fun wS hwS => ?_⟩) hXS ?_
  rotate_left
  · go_simp; try rfl
  simp only [List.set_cons_zero, List.set_cons_succ]
  refine wpX_take (i := 2) (v := ?_) rfl rfl (by kernel_rfl) (fun _ _ _ h => h) (Or.inl ⟨rfl, fun wS hwS => ?_⟩) hXS ?_
  rotate_left
  · go_simp; try rfl
  simp only [List.set_cons_zero, List.set_cons_succ]
  refine wpX_take (i := 3) (v := ?_) rfl rfl (by kernel_rfl) (fun _ _ _ h => h) (Or.inl ⟨rfl, fun wS hwS => ?_⟩) hXS ?_
  rotate_left
  · go_simp; try rfl
  simp only [List.set_cons_zero, List.set_cons_succ]
  refine wpX_take (i := 4) (v := ?_) rfl rfl (by kernel_rfl) (fun _ _ _ h => h) (Or.inl ⟨rfl, fun wS hwS => ?_⟩) hXS ?_
  rotate_left
  · go_simp; try rfl
  simp only [List.set_cons_zero, List.set_cons_succ]
  refine wpX_take (i := 8) (v := ?_) rfl rfl (by kernel_rfl) (fun _ _ _ h => h) (Or.inl ⟨rfl, fun wS hwS => ?_⟩) hXS ?_
  rotate_left
  · go_simp; try rfl
  simp only [List.set_cons_zero, List.set_cons_succ]
  refine wpX_take (i := 9) (v := ?_) rfl rfl (by kernel_rfl) (fun _ _ _ h => h) (Or.inl ⟨rfl, fun wS hwS => ?_⟩) hXS ?_
  rotate_left
  · go_simp; try rfl
  simp only [List.set_cons_zero, List.set_cons_succ]
  refine wpX_take (i := 10) (v := ?_) rfl rfl (by kernel_rfl) (fun _ _ _ h => h) (Or.inl ⟨rfl, fun wS hwS => ?_⟩) hXS ?_
  rotate_left
  · go_simp; try rfl
  simp only [List.set_cons_zero, List.set_cons_succ]
  refine wpX_take (i := 11) (v := ?_) rfl rfl (by kernel_rfl) (fun _ _ _ h => h) (Or.inl ⟨rfl, fun wS hwS => ?_⟩) hXS ?_
  rotate_left
  · go_simp; try rfl
  simp only [List.set_cons_zero, List.set_cons_succ]
  refine wpX_take (i := 12) (v := ?_) rfl rfl (by kernel_rfl) (fun _ _ _ h => h) (Or.inl ⟨rfl, fun wS hwS => ?_⟩) hXS ?_
  rotate_left
  · go_simp; try rfl
  simp only [List.set_cons_zero, List.set_cons_succ]
  refine wpX_many [(5, 54), (6, 55), (7, 56), (13, 62), (14, 63), (15, 64), (16, 65), (17, 66), (18, 8)]
    (fun i => match i with
      | 5 => IsR1 2 (sel k ad) | 6 => IsV (.int .u64 (IntKind.u64.wrap (k * ad))) | 7 => IsV (.agg #[.int .u64 av, .int .u64 (IntKind.u64.wrap (k * ad))])
      | 13 => IsR1 2 (sel k bd) | 14 => IsV (.int .u64 (IntKind.u64.wrap (k * bd))) | 15 => IsV (.agg #[.int .u64 bv, .int .u64 (IntKind.u64.wrap (k * bd))])
      | 16 => IsR2 2 (sel av bv) (sel (IntKind.u64.wrap (k * ad)) (IntKind.u64.wrap (k * bd))) | 17 => IsV (.agg #[.int .u64 pv, .int .u64 qd])
      | _ => IsNew W.heap.size (.cells #[.int .u64 0, .int .u64 0] 25 (0, 0)))
    W 1 rfl (by kernel_rfl) (by kernel_rfl) (fun w' hq => And.intro (hq.cell hp p0) (And.intro (hq.cell hp p1) (And.intro (hq.cell ha a0) (And.intro (hq.cell ha a1) (And.intro (hq.cell hbb b0) (hq.cell hbb b1))))))
    (by (refine List.forall_mem_cons.2 ⟨fun _ _ _ h k => ?_, List.forall_mem_cons.2 ⟨fun _ _ _ h k => ?_, List.forall_mem_cons.2 ⟨fun _ _ _ h k => ?_, List.forall_mem_cons.2 ⟨fun _ _ _ h k => ?_, List.forall_mem_cons.2 ⟨fun _ _ _ h k => ?_, List.forall_mem_cons.2 ⟨fun _ _ _ h k => ?_, List.forall_mem_cons.2 ⟨fun _ _ _ h k => ?_, List.forall_mem_cons.2 ⟨fun _ _ _ h k => ?_, List.forall_mem_cons.2 ⟨fun _ _ _ h k => ?_, List.forall_mem_nil _⟩⟩⟩⟩⟩⟩⟩⟩⟩) <;> first | exact IsV.keep h k | exact IsR1.keep h k | exact IsR2.keep h k | exact IsNew.keep h k)
    hq.drew ?_ ?_
  · clear hXS hq hkW
    refine List.forall_mem_cons.2 ⟨?_, List.forall_mem_cons.2 ⟨?_, List.forall_mem_cons.2 ⟨?_, List.forall_mem_cons.2 ⟨?_, List.forall_mem_cons.2 ⟨?_, List.forall_mem_cons.2 ⟨?_, List.forall_mem_cons.2 ⟨?_, List.forall_mem_cons.2 ⟨?_, List.forall_mem_cons.2 ⟨?_, List.forall_mem_nil _⟩⟩⟩⟩⟩⟩⟩⟩⟩
    · skip
      intro x V hV hx
      clear hx
      refine wpX_op (tv := ?_) rfl ?_ (fun K hK => ?_)
      rotate_left
      · simp only [upd, List.foldl_cons, List.foldl_nil, List.set_cons_zero, List.set_cons_succ]; rfl
      simp only [List.set_cons_zero, List.set_cons_succ] at hK
      go_simp
      exact hK _ _ (KW.alloc (kwR _) _) ⟨_, rfl, row1_sel _ _ k ad _ rfl⟩
    · skip
      intro x V hV hx
      have h5 := hx (5, 54) (by simp) (by kernel_rfl)
      clear hx
      refine wpX_op (tv := ?_) rfl ?_ (fun K hK => ?_)
      rotate_left
      · simp only [upd, List.foldl_cons, List.foldl_nil, List.set_cons_zero, List.set_cons_succ]; rfl
      simp only [List.set_cons_zero, List.set_cons_succ] at hK
      skip
      obtain ⟨g5, e5, r5⟩ := h5
      have ze5 : _ = _ := e5; simp only [ze5] at hK ⊢
      go_simp
      refine (rmul2 g5 k ad _ r5).mono ?_
      rintro e w4 ⟨rfl, hb⟩
      exact hK _ _ hb rfl
    · skip
      intro x V hV hx
      have h6 := hx (6, 55) (by simp) (by kernel_rfl)
      clear hx
      refine wpX_op (tv := ?_) rfl ?_ (fun K hK => ?_)
      rotate_left
      · simp only [upd, List.foldl_cons, List.foldl_nil, List.set_cons_zero, List.set_cons_succ]; rfl
      simp only [List.set_cons_zero, List.set_cons_succ] at hK
      skip
      have zh6 : _ = _ := h6; simp only [zh6] at hK ⊢
      go_simp
      exact hK _ _ (kwR _) rfl
    · skip
      intro x V hV hx
      clear hx
      refine wpX_op (tv := ?_) rfl ?_ (fun K hK => ?_)
      rotate_left
      · simp only [upd, List.foldl_cons, List.foldl_nil, List.set_cons_zero, List.set_cons_succ]; rfl
      simp only [List.set_cons_zero, List.set_cons_succ] at hK
      go_simp
      exact hK _ _ (KW.alloc (kwR _) _) ⟨_, rfl, row1_sel _ _ k bd _ rfl⟩
    · skip
      intro x V hV hx
      have h13 := hx (13, 62) (by simp) (by kernel_rfl)
      clear hx
      refine wpX_op (tv := ?_) rfl ?_ (fun K hK => ?_)
      rotate_left
      · simp only [upd, List.foldl_cons, List.foldl_nil, List.set_cons_zero, List.set_cons_succ]; rfl
      simp only [List.set_cons_zero, List.set_cons_succ] at hK
      skip
      obtain ⟨g5, e5, r5⟩ := h13
      have ze5 : _ = _ := e5; simp only [ze5] at hK ⊢
      go_simp
      refine (rmul2 g5 k bd _ r5).mono ?_
      rintro e w4 ⟨rfl, hb⟩
      exact hK _ _ hb rfl
    · skip
      intro x V hV hx
      have h14 := hx (14, 63) (by simp) (by kernel_rfl)
      clear hx
      refine wpX_op (tv := ?_) rfl ?_ (fun K hK => ?_)
      rotate_left
      · simp only [upd, List.foldl_cons, List.foldl_nil, List.set_cons_zero, List.set_cons_succ]; rfl
      simp only [List.set_cons_zero, List.set_cons_succ] at hK
      skip
      have zh14 : _ = _ := h14; simp only [zh14] at hK ⊢
      go_simp
      exact hK _ _ (kwR _) rfl
    · skip
      intro x V hV hx
      have h7 := hx (7, 56) (by simp) (by kernel_rfl)
      have h15 := hx (15, 64) (by simp) (by kernel_rfl)
      clear hx
      refine wpX_op (tv := ?_) rfl ?_ (fun K hK => ?_)
      rotate_left
      · simp only [upd, List.foldl_cons, List.foldl_nil, List.set_cons_zero, List.set_cons_succ]; rfl
      simp only [List.set_cons_zero, List.set_cons_succ] at hK
      skip
      have zh7 : _ = _ := h7; simp only [zh7] at hK ⊢
      have zh15 : _ = _ := h15; simp only [zh15] at hK ⊢
      go_simp
      exact hK _ _ (KW.alloc (kwR _) _) ⟨_, rfl, row2_at _ _ av _ bv _ _ rfl⟩
    · skip
      intro x V hV hx
      have h16 := hx (16, 65) (by simp) (by kernel_rfl)
      clear hx
      refine wpX_op (tv := ?_) rfl ?_ (fun K hK => ?_)
      rotate_left
      · simp only [upd, List.foldl_cons, List.foldl_nil, List.set_cons_zero, List.set_cons_succ]; rfl
      simp only [List.set_cons_zero, List.set_cons_succ] at hK
      skip
      obtain ⟨g5, e5, r5⟩ := h16
      have ze5 : _ = _ := e5; simp only [ze5] at hK ⊢
      go_simp
      refine (HQ.out g5 _ r5).mono ?_
      rintro e w4 ⟨rfl, hb⟩
      exact hK _ _ hb rfl
    · skip
      intro x V hV hx
      clear hx
      refine wpX_op (tv := ?_) rfl ?_ (fun K hK => ?_)
      rotate_left
      · simp only [upd, List.foldl_cons, List.foldl_nil, List.set_cons_zero, List.set_cons_succ]; rfl
      simp only [List.set_cons_zero, List.set_cons_succ] at hK
      go_simp
      exact hK _ _ (KW.alloc (kwR _) _) ⟨_, rfl, by have := hV.size; simpa using this, heap_alloc_new _ _⟩
  clear hXS hq
  intro x2 W3 hq hx
  have h17 := hx (17, 66) (by simp)
  have h18 := hx (18, 8) (by simp)
  clear hx
  simp only [upd, List.foldl_cons, List.foldl_nil, List.set_cons_zero, List.set_cons_succ]
  obtain ⟨Qb, e18, hQb, hcell⟩ := h18
  have e17 : x2 17 = .agg #[.int .u64 pv, .int .u64 qd] := h17
  have e18' : x2 18 = .pointer (some ⟨Qb, 0, none⟩) := e18
  simp only [e17, e18']
  clear e17 e18 e18'
  clear h17
  have hQ3 : Qb < W3.heap.size := (Array.getElem?_eq_some_iff.1 hcell).1
  have q0 : W3.cell? ⟨Qb, 0, none⟩ = some (.int .u64 0) := by rw [cell_of_row _ _ _ _ _ _ hcell]; rfl
  have q1 : W3.cell? ⟨Qb, 1, none⟩ = some (.int .u64 0) := by rw [cell_of_row _ _ _ _ _ _ hcell]; rfl
  have f0 : W3.frozen? ⟨Qb, 0, none⟩ = false := by simp [World.frozen?, hcell]
  have f1 : W3.frozen? ⟨Qb, 1, none⟩ = false := by simp [World.frozen?, hcell]
  have T := two_set q0 q1 (.int .u64 pv) (.int .u64 qd)
  have B2 : KW W ((W3.setCell ⟨Qb, 0, none⟩ (.int .u64 pv)).setCell ⟨Qb, 1, none⟩ (.int .u64 qd)) := Below.setCell (Below.setCell (show Below _ _ _ from hq) hQb _) hQb _
  have sz : ((W3.setCell ⟨Qb, 0, none⟩ (.int .u64 pv)).setCell ⟨Qb, 1, none⟩ (.int .u64 qd)).heap.size = W3.heap.size := by simp [World.setCell]
  have T := hid T
  have B2 := hid B2
  have sz := hid sz
  refine wpX_hard (k := 19) (by kernel_rfl) rfl (fun K hK => ?_)
  go_simp
  refine hK _ _ (fun _ => absurd rfl ‹_›) ?_
  clear hK K
  try simp only [List.set_cons_zero, List.set_cons_succ]
  refine wpX_done (by kernel_rfl) ?_
  go_wp2_with fail
  refine wp_world (fun V => KW w V ∧ P < V.heap.size ∧ Qb < V.heap.size ∧ w.heap.size + 1 < V.heap.size ∧ V.cell? ⟨P, 0, none⟩ = some (.int .u64 pv) ∧ V.cell? ⟨P, 1, none⟩ = some (.int .u64 pd) ∧ V.cell? ⟨w.heap.size, 0, none⟩ = some (.int .u64 av) ∧ V.cell? ⟨w.heap.size, 1, none⟩ = some (.int .u64 ad) ∧ V.cell? ⟨w.heap.size + 1, 0, none⟩ = some (.int .u64 bv) ∧ V.cell? ⟨w.heap.size + 1, 1, none⟩ = some (.int .u64 bd) ∧ V.cell? ⟨Qb, 0, none⟩ = some (.int .u64 pv) ∧ V.cell? ⟨Qb, 1, none⟩ = some (.int .u64 qd))
    ⟨B2.out.below hkW (by omega), by rw [sz.out]; have := hq.size; omega, by rw [sz.out]; exact hQ3, by rw [sz.out]; have := hq.size; omega, B2.out.cell hp p0, B2.out.cell hp p1, B2.out.cell ha a0, B2.out.cell ha a1, B2.out.cell hbb b0, B2.out.cell hbb b1, T.out.1, T.out.2⟩ ?_
  clear T B2 sz hq p0 p1 a0 a1 b0 b1 hp ha hbb q0 q1 f0 f1
  rintro V ⟨hkV, hp, hqq, hbb, p0, p1, a0, a1, b0, b1, q0, q1⟩
  have ha : w.heap.size < V.heap.size := by omega
  have hq := KW.refl V
  have hXS := And.intro (hq.cell hp p0) (And.intro (hq.cell hp p1) (And.intro (hq.cell ha a0) (And.intro (hq.cell ha a1) (And.intro (hq.cell hbb b0) (And.intro (hq.cell hbb b1) (And.intro (hq.cell hqq q0) (hq.cell hqq q1)))))))
  refine wpX_region (S := fun w' => w'.cell? ⟨P, 0, none⟩ = some (.int .u64 pv) ∧ w'.cell? ⟨P, 1, none⟩ = some (.int .u64 pd) ∧ w'.cell? ⟨w.heap.size, 0, none⟩ = some (.int .u64 av) ∧ w'.cell? ⟨w.heap.size, 1, none⟩ = some (.int .u64 ad) ∧ w'.cell? ⟨w.heap.size + 1, 0, none⟩ = some (.int .u64 bv) ∧ w'.cell? ⟨w.heap.size + 1, 1, none⟩ = some (.int .u64 bd) ∧ w'.cell? ⟨Qb, 0, none⟩ = some (.int .u64 pv) ∧ w'.cell? ⟨Qb, 1, none⟩ = some (.int .u64 qd)) (L := 99) (by kernel_rfl) ?_
  refine wpX_take (i := 0) (v := ?_) rfl rfl (by kernel_rfl) (fun _ _ _ h => h) (Or.inl ⟨rfl, fun wS hwS => ?_⟩) hXS ?_
  rotate_left
  · go_simp; try rfl
  simp only [List.set_cons_zero, List.set_cons_succ]
  refine wpX_take (i := 1) (v := ?_) rfl rfl (by kernel_rfl) (fun _ _ _ h => h) (Or.inl ⟨rfl, fun wS hwS => ?_⟩) hXS ?_
  rotate_left
  · go_simp; try rfl
  simp only [List.set_cons_zero, List.set_cons_succ]
  refine wpX_take (i := 2) (v := ?_) rfl rfl (by kernel_rfl) (fun _ _ _ h => h) (Or.inl ⟨rfl, fun wS hwS => ?_⟩) hXS ?_
  rotate_left
  · go_simp; try rfl
  simp only [List.set_cons_zero, List.set_cons_succ]
  refine wpX_take (i := 3) (v := ?_) rfl rfl (by kernel_rfl) (fun _ _ _ h => h) (Or.inl ⟨rfl, fun wS hwS => ?_⟩) hXS ?_
  rotate_left
  · go_simp; try rfl
  simp only [List.set_cons_zero, List.set_cons_succ]
  refine wpX_take (i := 4) (v := ?_) rfl rfl (by kernel_rfl) (fun _ _ _ h => h) (Or.inl ⟨rfl, fun wS hwS => ?_⟩) hXS ?_
  rotate_left
  · go_simp; try rfl
  simp only [List.set_cons_zero, List.set_cons_succ]
  refine wpX_take (i := 5) (v := ?_) rfl rfl (by kernel_rfl) (fun _ _ _ h => h) (Or.inl ⟨rfl, fun wS hwS => ?_⟩) hXS ?_
  rotate_left
  · go_simp; try rfl
  simp only [List.set_cons_zero, List.set_cons_succ]
  refine wpX_take (i := 6) (v := ?_) rfl rfl (by kernel_rfl) (fun _ _ _ h => h) (Or.inl ⟨rfl, fun wS hwS => ?_⟩) hXS ?_
  rotate_left
  · go_simp; try rfl
  simp only [List.set_cons_zero, List.set_cons_succ]
  refine wpX_take (i := 7) (v := ?_) rfl rfl (by kernel_rfl) (fun _ _ _ h => h) (Or.inl ⟨rfl, fun wS hwS => ?_⟩) hXS ?_
  rotate_left
  · go_simp; try rfl
  simp only [List.set_cons_zero, List.set_cons_succ]
  refine wpX_take (i := 8) (v := ?_) rfl rfl (by kernel_rfl) (fun _ _ _ h => h) (Or.inl ⟨rfl, fun wS hwS => ?_⟩) hXS ?_
  rotate_left
  · go_simp; try rfl
  simp only [List.set_cons_zero, List.set_cons_succ]
  refine wpX_take (i := 9) (v := ?_) rfl rfl (by kernel_rfl) (fun _ _ _ h => h) (Or.inl ⟨rfl, fun wS hwS => ?_⟩) hXS ?_
  rotate_left
  · go_simp; try rfl
  simp only [List.set_cons_zero, List.set_cons_succ]
  refine wpX_take (i := 10) (v := ?_) rfl rfl (by kernel_rfl) (fun _ _ _ h => h) (Or.inl ⟨rfl, fun wS hwS => ?_⟩) hXS ?_
  rotate_left
  · go_simp; try rfl
  simp only [List.set_cons_zero, List.set_cons_succ]
  refine wpX_hard (k := 11) (by kernel_rfl) rfl (fun K hK => ?_)
  go_simp
  refine hK _ _ (fun _ => And.intro (al_cell (hq.cell hp p0)) (And.intro (al_cell (hq.cell hp p1)) (And.intro (al_cell (hq.cell ha a0)) (And.intro (al_cell (hq.cell ha a1)) (And.intro (al_cell (hq.cell hbb b0)) (And.intro (al_cell (hq.cell hbb b1)) (And.intro (al_cell (hq.cell hqq q0)) (al_cell (hq.cell hqq q1))))))))) ?_
  clear hK K
  try simp only [List.set_cons_zero, List.set_cons_succ]
  refine wpX_hard (k := 12) (by kernel_rfl) rfl (fun K hK => ?_)
  go_simp
  (refine (rmul2 _ k pd _ (by exact row1_sel _ _ k pd _ (by simp))).mono ?_; rw [← HE.out.2.2.2.1]; rintro e wa ⟨rfl, hb⟩; (try replace hb := undrew hb); replace hq := hq.onA hb; clear hb; replace hXS := And.intro (hq.cell hp p0) (And.intro (hq.cell hp p1) (And.intro (hq.cell ha a0) (And.intro (hq.cell ha a1) (And.intro (hq.cell hbb b0) (And.intro (hq.cell hbb b1) (And.intro (hq.cell hqq q0) (hq.cell hqq q1))))))))
  refine hK _ _ (fun _ => hXS) ?_
  clear hK K
  try simp only [List.set_cons_zero, List.set_cons_succ]
  refine wpX_take (i := 13) (v := ?_) rfl rfl (by kernel_rfl) (fun _ _ _ h => h) (Or.inl ⟨rfl, fun wS hwS => ?_⟩) hXS ?_
  rotate_left
  · go_simp; try rfl
  simp only [List.set_cons_zero, List.set_cons_succ]
  refine wpX_take (i := 14) (v := ?_) rfl rfl (by kernel_rfl) (fun _ _ _ h => h) (Or.inl ⟨rfl, fun wS hwS => ?_⟩) hXS ?_
  rotate_left
  · go_simp; try rfl
  simp only [List.set_cons_zero, List.set_cons_succ]
  refine wpX_take (i := 15) (v := ?_) rfl rfl (by kernel_rfl) (fun _ _ _ h => h) (Or.inl ⟨rfl, fun wS hwS => ?_⟩) hXS ?_
  rotate_left
  · go_simp; try rfl
  simp only [List.set_cons_zero, List.set_cons_succ]
  refine wpX_take (i := 16) (v := ?_) rfl rfl (by kernel_rfl) (fun _ _ _ h => h) (Or.inl ⟨rfl, fun wS hwS => ?_⟩) hXS ?_
  rotate_left
  · go_simp; try rfl
  simp only [List.set_cons_zero, List.set_cons_succ]
  refine wpX_take (i := 17) (v := ?_) rfl rfl (by kernel_rfl) (fun _ _ _ h => h) (Or.inl ⟨rfl, fun wS hwS => ?_⟩) hXS ?_
  rotate_left
  · go_simp; try rfl
  simp only [List.set_cons_zero, List.set_cons_succ]
  refine wpX_take (i := 20) (v := ?_) rfl rfl (by kernel_rfl) (fun _ _ _ h => h) (Or.inl ⟨rfl, fun wS hwS => ?_⟩) hXS ?_
  rotate_left
  · go_simp; try rfl
  simp only [List.set_cons_zero, List.set_cons_succ]
  refine wpX_take (i := 22) (v := ?_) rfl rfl (by kernel_rfl) (fun _ _ _ h => h) (Or.inl ⟨rfl, fun wS hwS => ?_⟩) hXS ?_
  rotate_left
  · go_simp; try rfl
  simp only [List.set_cons_zero, List.set_cons_succ]
  refine wpX_hard (k := 18) (by kernel_rfl) rfl (fun K hK => ?_)
  go_simp
  refine hK _ _ (fun _ => And.intro (al_cell (hq.cell hp p0)) (And.intro (al_cell (hq.cell hp p1)) (And.intro (al_cell (hq.cell ha a0)) (And.intro (al_cell (hq.cell ha a1)) (And.intro (al_cell (hq.cell hbb b0)) (And.intro (al_cell (hq.cell hbb b1)) (And.intro (al_cell (hq.cell hqq q0)) (al_cell (hq.cell hqq q1))))))))) ?_
  clear hK K
  try simp only [List.set_cons_zero, List.set_cons_succ]
  refine wpX_hard (k := 19) (by kernel_rfl) rfl (fun K hK => ?_)
  go_simp
  (refine (dadd2 _ _ _ _ _ _ (row2_at _ _ _ _ _ _ _ (by simp))).mono ?_; rintro e wb ⟨rfl, hb⟩; (try replace hb := undrew hb); replace hq := hq.onA hb; clear hb; replace hXS := And.intro (hq.cell hp p0) (And.intro (hq.cell hp p1) (And.intro (hq.cell ha a0) (And.intro (hq.cell ha a1) (And.intro (hq.cell hbb b0) (And.intro (hq.cell hbb b1) (And.intro (hq.cell hqq q0) (hq.cell hqq q1))))))))
  refine hK _ _ (fun _ => hXS) ?_
  clear hK K
  try simp only [List.set_cons_zero, List.set_cons_succ]
  refine wpX_hard (k := 21) (by kernel_rfl) rfl (fun K hK => ?_)
  go_simp
  (refine (dsub_any _ _ bv bd _).mono ?_; rw [HE.out.2.2.2.2.1, HE.out.2.2.2.2.2]; rintro e wc ⟨rfl, hb⟩; (try replace hb := undrew hb); replace hq := hq.on hb; clear hb; replace hXS := And.intro (hq.cell hp p0) (And.intro (hq.cell hp p1) (And.intro (hq.cell ha a0) (And.intro (hq.cell ha a1) (And.intro (hq.cell hbb b0) (And.intro (hq.cell hbb b1) (And.intro (hq.cell hqq q0) (hq.cell hqq q1))))))))
  refine hK _ _ (fun _ => hXS) ?_
  clear hK K
  try simp only [List.set_cons_zero, List.set_cons_succ]
  refine wpX_take (i := 23) (v := ?_) rfl rfl (by kernel_rfl) (fun _ _ _ h => h) (Or.inl ⟨rfl, fun wS hwS => ?_⟩) hXS ?_
  rotate_left
  · go_simp; try rfl
  simp only [List.set_cons_zero, List.set_cons_succ]
  refine wpX_take (i := 24) (v := ?_) rfl rfl (by kernel_rfl) (fun _ _ _ h => h) (Or.inl ⟨rfl, fun wS hwS => ?_⟩) hXS ?_
  rotate_left
  · go_simp; try rfl
  simp only [List.set_cons_zero, List.set_cons_succ]
  refine wpX_take (i := 25) (v := ?_) rfl rfl (by kernel_rfl) (fun _ _ _ h => h) (Or.inl ⟨rfl, fun wS hwS => ?_⟩) hXS ?_
  rotate_left
  · go_simp; try rfl
  simp only [List.set_cons_zero, List.set_cons_succ]
  refine wpX_hard (k := 26) (by kernel_rfl) rfl (fun K hK => ?_)
  go_simp
  (refine (goes_any _).mono ?_; rintro e wd ⟨rfl, hb⟩; (try replace hb := undrew hb); replace hq := hq.on hb; clear hb; replace hXS := And.intro (hq.cell hp p0) (And.intro (hq.cell hp p1) (And.intro (hq.cell ha a0) (And.intro (hq.cell ha a1) (And.intro (hq.cell hbb b0) (And.intro (hq.cell hbb b1) (And.intro (hq.cell hqq q0) (hq.cell hqq q1))))))))
  refine hK _ _ (fun _ => hXS) ?_
  clear hK K
  try simp only [List.set_cons_zero, List.set_cons_succ]
  refine wpX_take (i := 27) (v := ?_) rfl rfl (by kernel_rfl) (fun _ _ _ h => h) (Or.inl ⟨rfl, fun wS hwS => ?_⟩) hXS ?_
  rotate_left
  · go_simp; try rfl
  simp only [List.set_cons_zero, List.set_cons_succ]
  refine wpX_take (i := 28) (v := ?_) rfl rfl (by kernel_rfl) (fun _ _ _ h => h) (Or.inl ⟨rfl, fun wS hwS => ?_⟩) hXS ?_
  rotate_left
  · go_simp; try rfl
  simp only [List.set_cons_zero, List.set_cons_succ]
  refine wpX_done (by kernel_rfl) ?_
  go_wp2
  go_ret
  exact ⟨rfl, hq.below hkV (by omega)⟩
end Go.Proofs.Ytkgcipgnpknbdaa
