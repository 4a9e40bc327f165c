/- The walk of OpcodeDerives. -/
import Derived.Test.YtnpgiallgcliiaaO16
import Derived.Test.YtnpgiallgcliiaaDO
import Derived.Test.YtnpgiallgcliiaaMany
namespace Go.Proofs.Ytnpgiallgcliiaa
open Go.ChangeShapes Go.WideShapes Go.ChangeAt Go.RowKit
set_option linter.unusedVariables false

/-- what is known of a value: it is v; it is a slice of a new block, of those cells -/
def IsV (v : Value) (u : Value) (_ : World) : Prop := u = v
def IsR1 (n : Nat) (f : Nat → Int) (u : Value) (w : World) : Prop := ∃ g, u = .slice (some ⟨g, 0, none⟩) n n ∧ Row1 w (some ⟨g, 0, none⟩) n fun k => .int .u64 (f k)
def IsR2 (n : Nat) (f g : Nat → Int) (u : Value) (w : World) : Prop := ∃ b, u = .slice (some ⟨b, 0, none⟩) n n ∧ Row2 w (some ⟨b, 0, none⟩) n (fun k => .int .u64 (f k)) (fun k => .int .u64 (g k))
def IsNew (B : Nat) (o : Obj) (u : Value) (w : World) : Prop := ∃ g, u = .pointer (some ⟨g, 0, none⟩) ∧ B ≤ g ∧ w.heap[g]? = some o
theorem IsV.keep {v u : Value} {w w' : World} (h : IsV v u w) (_ : KW w w') : IsV v u w' := h
theorem IsR1.keep {n : Nat} {f : Nat → Int} {u : Value} {w w' : World} (h : IsR1 n f u w) (k : KW w w') : IsR1 n f u w' := by
  obtain ⟨g, e, r⟩ := h; exact ⟨g, e, r.below k⟩
theorem IsR2.keep {n : Nat} {f g : Nat → Int} {u : Value} {w w' : World} (h : IsR2 n f g u w) (k : KW w w') : IsR2 n f g u w' := by
  obtain ⟨b, e, r⟩ := h; exact ⟨b, e, r.below k⟩
theorem IsNew.keep {B : Nat} {o : Obj} {u : Value} {w w' : World} (h : IsNew B o u w) (k : KW w w') : IsNew B o u w' := by
  obtain ⟨g, e, hB, r⟩ := h; exact ⟨g, e, hB, (Below.block k g (Array.getElem?_eq_some_iff.1 r).1).trans r⟩
theorem kwR (w : World) : KW w w := KW.refl w


theorem row1_sel (w : World) (t : TypeId) (a b : Int) (g : Nat) (hg : g = w.heap.size) : Row1 (w.alloc (.cells #[.int .u64 a, .int .u64 b] t)) (some ⟨g, 0, none⟩) 2 (fun k => .int .u64 (sel a b k)) := by
  subst hg
  intro _
  refine ⟨w.heap.size, 0, rfl, by simp, fun k hk => ?_⟩
  rw [cell_of_row _ _ _ _ _ _ (heap_alloc_new w _)]
  rcases (show k = 0 ∨ k = 1 from by omega) with rfl | rfl <;> rfl
theorem rmul2 (g : Nat) (a b : Int) (w : World) (hr : Row1 w (some ⟨g, 0, none⟩) 2 fun k => .int .u64 (sel a b k)) :
    Calls Try.prog 44 #[.slice (some ⟨g, 0, none⟩) 2 2] w fun e w' => e = .returned (.int .u64 (IntKind.u64.wrap (a * b))) ∧ Below w.heap.size w w' := by
  refine (mul_any (some ⟨g, 0, none⟩) 2 2 (sel a b) w (by omega) hr).mono fun e w' ⟨he, hw⟩ => ⟨?_, hw ▸ Below.refl _ _⟩
  rw [he]
  simp [Pl.pr, sel]
theorem radd2 (g : Nat) (a b : Int) (w : World) (hr : Row1 w (some ⟨g, 0, none⟩) 2 fun k => .int .u64 (sel a b k)) :
    Calls Try.prog 43 #[.slice (some ⟨g, 0, none⟩) 2 2] w fun e w' => e = .returned (.int .u64 (IntKind.u64.wrap (a + b))) ∧ Below w.heap.size w w' := by
  refine (add_any (some ⟨g, 0, none⟩) 2 2 (sel a b) w (by omega) hr).mono fun e w' ⟨he, hw⟩ => ⟨?_, hw ▸ Below.refl _ _⟩
  rw [he]
  simp [Pl.sm, sel]

/-- what comes of the derivatives -/
def gd07 (k xv xd yv yd : Int) : Int := IntKind.u64.wrap (IntKind.u64.wrap (Oc.pda k xv yv * xd) + IntKind.u64.wrap (Oc.pdb k xv yv * yd))
theorem gd_1 (xv xd yv yd : Int) : gd07 1 xv xd yv yd = IntKind.u64.wrap (xd + yd) := by
  show IntKind.u64.wrap (IntKind.u64.wrap (1 * xd) + IntKind.u64.wrap (1 * yd)) = _
  rw [IntKind.wrap_u64, IntKind.wrap_u64, IntKind.wrap_u64, IntKind.wrap_u64]; omega
theorem gd_2 (xv xd yv yd : Int) : gd07 2 xv xd yv yd = IntKind.u64.wrap (xd - yd) := by
  show IntKind.u64.wrap (IntKind.u64.wrap (1 * xd) + IntKind.u64.wrap (18446744073709551615 * yd)) = _
  rw [IntKind.wrap_u64, IntKind.wrap_u64, IntKind.wrap_u64, IntKind.wrap_u64]; omega
theorem gd_3 (xv xd yv yd : Int) : gd07 3 xv xd yv yd = IntKind.u64.wrap (xv * yd + xd * yv) := by
  show IntKind.u64.wrap (IntKind.u64.wrap (yv * xd) + IntKind.u64.wrap (xv * yd)) = _
  rw [Int.mul_comm yv xd]
  generalize xd * yv = A
  generalize xv * yd = B
  rw [IntKind.wrap_u64, IntKind.wrap_u64, IntKind.wrap_u64, IntKind.wrap_u64]; omega
theorem gd_4 (xv xd yv yd : Int) : gd07 4 xv xd yv yd = IntKind.u64.wrap (-xd) := by
  show IntKind.u64.wrap (IntKind.u64.wrap (18446744073709551615 * xd) + IntKind.u64.wrap (0 * yd)) = _
  rw [IntKind.wrap_u64, IntKind.wrap_u64, IntKind.wrap_u64, IntKind.wrap_u64]; omega
theorem gd_5 (xv xd yv yd : Int) : gd07 5 xv xd yv yd = 0 := by
  show IntKind.u64.wrap (IntKind.u64.wrap (0 * xd) + IntKind.u64.wrap (0 * yd)) = _
  rw [IntKind.wrap_u64, IntKind.wrap_u64, IntKind.wrap_u64]; omega
theorem gd_6 (xv xd yv yd : Int) (h0 : 0 ≤ xd) (h1 : xd ≤ 18446744073709551615) : gd07 6 xv xd yv yd = xd := by
  show IntKind.u64.wrap (IntKind.u64.wrap (1 * xd) + IntKind.u64.wrap (0 * yd)) = _
  rw [IntKind.wrap_u64, IntKind.wrap_u64, IntKind.wrap_u64]; omega
theorem gd_0 (k xv xd yv yd : Int) (h : ¬ (1 ≤ k ∧ k ≤ 6)) : gd07 k xv xd yv yd = 0 ∧ Oc.app k xv yv 0 = 0 := by
  have e1 : Oc.pda k xv yv = 0 := by unfold Oc.pda; rw [if_neg (by omega), if_neg (by omega), if_neg (by omega)]
  have e2 : Oc.pdb k xv yv = 0 := by unfold Oc.pdb; rw [if_neg (by omega), if_neg (by omega), if_neg (by omega)]
  refine ⟨?_, by unfold Oc.app; rw [if_neg (by omega), if_neg (by omega), if_neg (by omega), if_neg (by omega), if_neg (by omega), if_neg (by omega)]⟩
  unfold gd07
  rw [e1, e2, IntKind.wrap_u64, IntKind.wrap_u64, IntKind.wrap_u64]; omega
theorem app_0 (k xv yv v : Int) (h : ¬ (1 ≤ k ∧ k ≤ 6)) : Oc.app k xv yv v = 0 := by
  unfold Oc.app; rw [if_neg (by omega), if_neg (by omega), if_neg (by omega), if_neg (by omega), if_neg (by omega), if_neg (by omega)]
theorem row2_at' (w : World) (t : TypeId) (a b c d : Int) : Row2 (w.alloc (.cells #[.int .u64 a, .int .u64 b, .int .u64 c, .int .u64 d] t)) (some ⟨w.heap.size, 0, none⟩) 2 (fun k => .int .u64 (sel a c k)) (fun k => .int .u64 (sel b d k)) := row2_int w t a b c d
theorem op9_row (w : World) (k d ra rb v xv xd yv yd : Int) :
    ((((w.alloc (.cells #[.int .i64 k, .int .i64 d, .int .i64 ra, .int .i64 rb, .int .u64 v] 24)).alloc (.cells #[.int .u64 xv, .int .u64 xd] 62)).alloc (.cells #[.int .u64 yv, .int .u64 yd] 62)).rowIs w.heap.size 24 5 (fun i => [.int .i64 k, .int .i64 d, .int .i64 ra, .int .i64 rb, .int .u64 v].getD i undef)) ∧
    ((((w.alloc (.cells #[.int .i64 k, .int .i64 d, .int .i64 ra, .int .i64 rb, .int .u64 v] 24)).alloc (.cells #[.int .u64 xv, .int .u64 xd] 62)).alloc (.cells #[.int .u64 yv, .int .u64 yd] 62)).rowIs (w.heap.size + 1) 62 2 (pr2 (.int .u64 xv) (.int .u64 xd))) ∧
    ((((w.alloc (.cells #[.int .i64 k, .int .i64 d, .int .i64 ra, .int .i64 rb, .int .u64 v] 24)).alloc (.cells #[.int .u64 xv, .int .u64 xd] 62)).alloc (.cells #[.int .u64 yv, .int .u64 yd] 62)).rowIs (w.heap.size + 2) 62 2 (pr2 (.int .u64 yv) (.int .u64 yd))) := by
  refine ⟨((opv_row' w k d ra rb v).alloc _).alloc _, ?_, ?_⟩
  · have h := (pr2_new (w.alloc (.cells #[.int .i64 k, .int .i64 d, .int .i64 ra, .int .i64 rb, .int .u64 v] 24)) 62 (.int .u64 xv) (.int .u64 xd)).alloc (.cells #[.int .u64 yv, .int .u64 yd] 62)
    simpa using h
  · have h := pr2_new ((w.alloc (.cells #[.int .i64 k, .int .i64 d, .int .i64 ra, .int .i64 rb, .int .u64 v] 24)).alloc (.cells #[.int .u64 xv, .int .u64 xd] 62)) 62 (.int .u64 yv) (.int .u64 yd)
    simpa using h
set_option maxRecDepth 100000 in
set_option maxHeartbeats 8000000 in
theorem derives_walk (k d ra rb v xv xd yv yd : Int) (w : World) (v0 : 0 ≤ v) (v1 : v ≤ 18446744073709551615) (x0 : 0 ≤ xv) (x1 : xv ≤ 18446744073709551615) (z0 : 0 ≤ xd) (z1 : xd ≤ 18446744073709551615) (y0 : 0 ≤ yv) (y1 : yv ≤ 18446744073709551615) (u0 : 0 ≤ yd) (u1 : yd ≤ 18446744073709551615) :
    Calls Try.prog 12 #[.agg (opv k d ra rb v), .agg #[.int .u64 xv, .int .u64 xd], .agg #[.int .u64 yv, .int .u64 yd]] w fun e w' => e = .returned (.bool true) ∧ KW w w' := by
  have HG := hid (fun W => goes07_any W)
  have HP := hid (fun W => opart_any k d ra rb v xv yv W)
  have HA := hid (fun W => oapply_any k d ra rb v xv yv W)
  have HGd := hid (show gd07 k xv xd yv yd = IntKind.u64.wrap (IntKind.u64.wrap (Oc.pda k xv yv * xd) + IntKind.u64.wrap (Oc.pdb k xv yv * yd)) from rfl)
  have HAp := hid (show Oc.app k xv yv v = Oc.app k xv yv v from rfl)
  have hrows := op9_row w k d ra rb v xv xd yv yd
  have hk := (((KW.refl w).alloc (.cells (opv k d ra rb v) 24)).alloc (.cells #[.int .u64 xv, .int .u64 xd] 62)).alloc (.cells #[.int .u64 yv, .int .u64 yd] 62)
  unfold opv at *
  have HRows := hid hrows
  have HK := hid hk
  clear hrows hk
  generalize hm1 : IntKind.u64.wrap (Oc.pda k xv yv * xd) = m1 at *
  generalize hm2 : IntKind.u64.wrap (Oc.pdb k xv yv * yd) = m2 at *
  generalize hgd : gd07 k xv xd yv yd = gd at *
  generalize hp1 : Oc.pda k xv yv = p1 at *
  generalize hp2 : Oc.pdb k xv yv = p2 at *
  generalize hap : Oc.app k xv yv v = ap at *
  have HM := hid (And.intro hm1 (And.intro hm2 HGd.out))
  have HE := hid (And.intro hp1 (And.intro hp2 (And.intro hap hgd)))
  clear hm1 hm2 hgd hp1 hp2 hap HAp HGd
  go_enter Try.func12, Try.ntmps12
  go_wp2_with fail
  refine (HP.out _).mono ?_
  rintro e W ⟨rfl, hb⟩
  have HK1 := hid (HK.out.t hb)
  have HR0 := hid (KW.row hb HRows.out.1.lt HRows.out.1)
  have HR1 := hid (KW.row hb HRows.out.2.1.lt HRows.out.2.1)
  have HR2 := hid (KW.row hb HRows.out.2.2.lt HRows.out.2.2)
  clear hb HRows HK
  go_wp2_with fail
  have HSS := hid (fun V (h : KW W V) => And.intro (KW.cell h HR0.out.lt (HR0.out.cell (i := 0) (by omega))) (And.intro (KW.cell h HR0.out.lt (HR0.out.cell (i := 1) (by omega))) (And.intro (KW.cell h HR0.out.lt (HR0.out.cell (i := 2) (by omega))) (And.intro (KW.cell h HR0.out.lt (HR0.out.cell (i := 3) (by omega))) (And.intro (KW.cell h HR0.out.lt (HR0.out.cell (i := 4) (by omega)))
    (And.intro (KW.cell h HR1.out.lt (pr2_cells HR1.out).1) (And.intro (KW.cell h HR1.out.lt (pr2_cells HR1.out).2.1) (And.intro (KW.cell h HR2.out.lt (pr2_cells HR2.out).1) (KW.cell h HR2.out.lt (pr2_cells HR2.out).2.1)))))))))
  simp only [List.getD_cons_succ, List.getD_cons_zero] at HSS
  have hXS := HSS.out _ (KW.refl W).drew
  refine wpX_region (S := fun w' => w'.cell? ⟨w.heap.size, 0, none⟩ = some (.int .i64 k) ∧ w'.cell? ⟨w.heap.size, 1, none⟩ = some (.int .i64 d) ∧ w'.cell? ⟨w.heap.size, 2, none⟩ = some (.int .i64 ra) ∧ w'.cell? ⟨w.heap.size, 3, none⟩ = some (.int .i64 rb) ∧ w'.cell? ⟨w.heap.size, 4, none⟩ = some (.int .u64 v) ∧
    w'.cell? ⟨w.heap.size + 1, 0, none⟩ = some (.int .u64 xv) ∧ w'.cell? ⟨w.heap.size + 1, 1, none⟩ = some (.int .u64 xd) ∧ w'.cell? ⟨w.heap.size + 1 + 1, 0, none⟩ = some (.int .u64 yv) ∧ w'.cell? ⟨w.heap.size + 1 + 1, 1, none⟩ = some (.int .u64 yd)) (L := 20) (by kernel_rfl) ?_
  refine wpX_take (i := 0) (v := ?_) rfl rfl (by kernel_rfl) (fun _ _ _ h => h) (Or.inl ⟨rfl, fun wS hwS => ?_⟩) hXS ?_
  rotate_left
  · go_simp; try rfl
  simp only [List.set_cons_zero, List.set_cons_succ]
  refine wpX_take (i := 1) (v := ?_) rfl rfl (by kernel_rfl) (fun _ _ _ h => h) (Or.inl ⟨rfl, fun wS hwS => ?_⟩) hXS ?_
  rotate_left
  · go_simp; try rfl
  simp only [List.set_cons_zero, List.set_cons_succ]
  refine wpX_take (i := 2) (v := ?_) rfl rfl (by kernel_rfl) (fun _ _ _ h => h) (Or.inl ⟨rfl, fun wS hwS => ?_⟩) hXS ?_
  rotate_left
  · go_simp; try rfl
  simp only [List.set_cons_zero, List.set_cons_succ]
  refine wpX_take (i := 3) (v := ?_) rfl rfl (by kernel_rfl) (fun _ _ _ h => h) (Or.inl ⟨rfl, fun wS hwS => ?_⟩) hXS ?_
  rotate_left
  · go_simp; try rfl
  simp only [List.set_cons_zero, List.set_cons_succ]
  refine wpX_take (i := 4) (v := ?_) rfl rfl (by kernel_rfl) (fun _ _ _ h => h) (Or.inl ⟨rfl, fun wS hwS => ?_⟩) hXS ?_
  rotate_left
  · go_simp; try rfl
  simp only [List.set_cons_zero, List.set_cons_succ]
  refine wpX_take (i := 6) (v := ?_) rfl rfl (by kernel_rfl) (fun _ _ _ h => h) (Or.inl ⟨rfl, fun wS hwS => ?_⟩) hXS ?_
  rotate_left
  · go_simp; try rfl
  simp only [List.set_cons_zero, List.set_cons_succ]
  refine wpX_take (i := 7) (v := ?_) rfl rfl (by kernel_rfl) (fun _ _ _ h => h) (Or.inl ⟨rfl, fun wS hwS => ?_⟩) hXS ?_
  rotate_left
  · go_simp; try rfl
  simp only [List.set_cons_zero, List.set_cons_succ]
  refine wpX_take (i := 8) (v := ?_) rfl rfl (by kernel_rfl) (fun _ _ _ h => h) (Or.inl ⟨rfl, fun wS hwS => ?_⟩) hXS ?_
  rotate_left
  · go_simp; try rfl
  simp only [List.set_cons_zero, List.set_cons_succ]
  refine wpX_take (i := 11) (v := ?_) rfl rfl (by kernel_rfl) (fun _ _ _ h => h) (Or.inl ⟨rfl, fun wS hwS => ?_⟩) hXS ?_
  rotate_left
  · go_simp; try rfl
  simp only [List.set_cons_zero, List.set_cons_succ]
  refine wpX_take (i := 12) (v := ?_) rfl rfl (by kernel_rfl) (fun _ _ _ h => h) (Or.inl ⟨rfl, fun wS hwS => ?_⟩) hXS ?_
  rotate_left
  · go_simp; try rfl
  simp only [List.set_cons_zero, List.set_cons_succ]
  refine wpX_take (i := 13) (v := ?_) rfl rfl (by kernel_rfl) (fun _ _ _ h => h) (Or.inl ⟨rfl, fun wS hwS => ?_⟩) hXS ?_
  rotate_left
  · go_simp; try rfl
  simp only [List.set_cons_zero, List.set_cons_succ]
  clear hXS
  have hq := (KW.refl W).drew
  refine wpX_many [(5, 24), (9, 28), (10, 29), (14, 33), (15, 34), (16, 35), (17, 36), (18, 37), (19, 9)]
    (fun i => match i with
      | 5 => IsV (.int .u64 ap) | 9 => IsR1 2 (sel p1 xd) | 10 => IsV (.int .u64 m1) | 14 => IsR1 2 (sel p2 yd) | 15 => IsV (.int .u64 m2)
      | 16 => IsR1 2 (sel m1 m2) | 17 => IsV (.int .u64 gd) | 18 => IsV (.agg #[.int .u64 ap, .int .u64 gd])
      | _ => IsNew W.heap.size (.cells #[.int .u64 0, .int .u64 0] 62 (0, 0)))
    W 1 rfl (by kernel_rfl) (by kernel_rfl) (fun w' hq => HSS.out w' hq)
    (by (refine List.forall_mem_cons.2 ⟨fun _ _ _ h k => ?_, List.forall_mem_cons.2 ⟨fun _ _ _ h k => ?_, List.forall_mem_cons.2 ⟨fun _ _ _ h k => ?_, List.forall_mem_cons.2 ⟨fun _ _ _ h k => ?_, List.forall_mem_cons.2 ⟨fun _ _ _ h k => ?_, List.forall_mem_cons.2 ⟨fun _ _ _ h k => ?_, List.forall_mem_cons.2 ⟨fun _ _ _ h k => ?_, List.forall_mem_cons.2 ⟨fun _ _ _ h k => ?_, List.forall_mem_cons.2 ⟨fun _ _ _ h k => ?_, List.forall_mem_nil _⟩⟩⟩⟩⟩⟩⟩⟩⟩) <;> first | exact IsV.keep h k | exact IsR1.keep h k | exact IsNew.keep h k)
    hq ?_ ?_
  · clear hq
    refine List.forall_mem_cons.2 ⟨?_, List.forall_mem_cons.2 ⟨?_, List.forall_mem_cons.2 ⟨?_, List.forall_mem_cons.2 ⟨?_, List.forall_mem_cons.2 ⟨?_, List.forall_mem_cons.2 ⟨?_, List.forall_mem_cons.2 ⟨?_, List.forall_mem_cons.2 ⟨?_, List.forall_mem_cons.2 ⟨?_, List.forall_mem_nil _⟩⟩⟩⟩⟩⟩⟩⟩⟩
    · skip
      intro x V hV hx
      clear hx
      refine wpX_op (tv := ?_) rfl ?_ (fun K hK => ?_)
      rotate_left
      · simp only [upd, List.foldl_cons, List.foldl_nil, List.set_cons_zero, List.set_cons_succ]; rfl
      simp only [List.set_cons_zero, List.set_cons_succ] at hK
      go_simp
      refine (HA.out _).mono ?_
      rintro e w4 ⟨rfl, hb⟩
      exact hK _ _ hb rfl
    · skip
      intro x V hV hx
      clear hx
      refine wpX_op (tv := ?_) rfl ?_ (fun K hK => ?_)
      rotate_left
      · simp only [upd, List.foldl_cons, List.foldl_nil, List.set_cons_zero, List.set_cons_succ]; rfl
      simp only [List.set_cons_zero, List.set_cons_succ] at hK
      go_simp
      exact hK _ _ (KW.alloc (kwR _) _) ⟨_, rfl, row1_sel _ _ p1 xd _ rfl⟩
    · skip
      intro x V hV hx
      have h9 := hx (9, 28) (by simp) (by kernel_rfl)
      clear hx
      refine wpX_op (tv := ?_) rfl ?_ (fun K hK => ?_)
      rotate_left
      · simp only [upd, List.foldl_cons, List.foldl_nil, List.set_cons_zero, List.set_cons_succ]; rfl
      simp only [List.set_cons_zero, List.set_cons_succ] at hK
      skip
      obtain ⟨g5, e5, r5⟩ := h9
      have ze5 : _ = _ := e5; simp only [ze5] at hK ⊢
      go_simp
      have h := rmul2 g5 p1 xd V r5
      rw [HM.out.1] at h
      refine h.mono ?_
      rintro e w4 ⟨rfl, hb⟩
      exact hK _ _ hb rfl
    · skip
      intro x V hV hx
      clear hx
      refine wpX_op (tv := ?_) rfl ?_ (fun K hK => ?_)
      rotate_left
      · simp only [upd, List.foldl_cons, List.foldl_nil, List.set_cons_zero, List.set_cons_succ]; rfl
      simp only [List.set_cons_zero, List.set_cons_succ] at hK
      go_simp
      exact hK _ _ (KW.alloc (kwR _) _) ⟨_, rfl, row1_sel _ _ p2 yd _ rfl⟩
    · skip
      intro x V hV hx
      have h14 := hx (14, 33) (by simp) (by kernel_rfl)
      clear hx
      refine wpX_op (tv := ?_) rfl ?_ (fun K hK => ?_)
      rotate_left
      · simp only [upd, List.foldl_cons, List.foldl_nil, List.set_cons_zero, List.set_cons_succ]; rfl
      simp only [List.set_cons_zero, List.set_cons_succ] at hK
      skip
      obtain ⟨g5, e5, r5⟩ := h14
      have ze5 : _ = _ := e5; simp only [ze5] at hK ⊢
      go_simp
      have h := rmul2 g5 p2 yd V r5
      rw [HM.out.2.1] at h
      refine h.mono ?_
      rintro e w4 ⟨rfl, hb⟩
      exact hK _ _ hb rfl
    · skip
      intro x V hV hx
      have h10 := hx (10, 29) (by simp) (by kernel_rfl)
      have h15 := hx (15, 34) (by simp) (by kernel_rfl)
      clear hx
      refine wpX_op (tv := ?_) rfl ?_ (fun K hK => ?_)
      rotate_left
      · simp only [upd, List.foldl_cons, List.foldl_nil, List.set_cons_zero, List.set_cons_succ]; rfl
      simp only [List.set_cons_zero, List.set_cons_succ] at hK
      skip
      have zh10 : _ = _ := h10; simp only [zh10] at hK ⊢
      have zh15 : _ = _ := h15; simp only [zh15] at hK ⊢
      go_simp
      exact hK _ _ (KW.alloc (kwR _) _) ⟨_, rfl, row1_sel _ _ m1 m2 _ rfl⟩
    · skip
      intro x V hV hx
      have h16 := hx (16, 35) (by simp) (by kernel_rfl)
      clear hx
      refine wpX_op (tv := ?_) rfl ?_ (fun K hK => ?_)
      rotate_left
      · simp only [upd, List.foldl_cons, List.foldl_nil, List.set_cons_zero, List.set_cons_succ]; rfl
      simp only [List.set_cons_zero, List.set_cons_succ] at hK
      skip
      obtain ⟨g5, e5, r5⟩ := h16
      have ze5 : _ = _ := e5; simp only [ze5] at hK ⊢
      go_simp
      have h := radd2 g5 m1 m2 V r5
      rw [← HM.out.2.2] at h
      refine h.mono ?_
      rintro e w4 ⟨rfl, hb⟩
      exact hK _ _ hb rfl
    · skip
      intro x V hV hx
      have h5 := hx (5, 24) (by simp) (by kernel_rfl)
      have h17 := hx (17, 36) (by simp) (by kernel_rfl)
      clear hx
      refine wpX_op (tv := ?_) rfl ?_ (fun K hK => ?_)
      rotate_left
      · simp only [upd, List.foldl_cons, List.foldl_nil, List.set_cons_zero, List.set_cons_succ]; rfl
      simp only [List.set_cons_zero, List.set_cons_succ] at hK
      skip
      have zh5 : _ = _ := h5; simp only [zh5] at hK ⊢
      have zh17 : _ = _ := h17; simp only [zh17] at hK ⊢
      go_simp
      exact hK _ _ (kwR _) rfl
    · skip
      intro x V hV hx
      clear hx
      refine wpX_op (tv := ?_) rfl ?_ (fun K hK => ?_)
      rotate_left
      · simp only [upd, List.foldl_cons, List.foldl_nil, List.set_cons_zero, List.set_cons_succ]; rfl
      simp only [List.set_cons_zero, List.set_cons_succ] at hK
      go_simp
      exact hK _ _ (KW.alloc (kwR _) _) ⟨_, rfl, by have := hV.size; simpa using this, heap_alloc_new _ _⟩
  intro x2 W3 hq hx
  have h18 := hx (18, 37) (by simp)
  have h19 := hx (19, 9) (by simp)
  clear hx
  simp only [upd, List.foldl_cons, List.foldl_nil, List.set_cons_zero, List.set_cons_succ]
  obtain ⟨Qb, e19, hQb, hcell⟩ := h19
  have e18 : x2 18 = .agg #[.int .u64 ap, .int .u64 gd] := h18
  have e19' : x2 19 = .pointer (some ⟨Qb, 0, none⟩) := e19
  simp only [e18, e19']
  clear e18 e19 e19' h18
  have q0 : W3.cell? ⟨Qb, 0, none⟩ = some (.int .u64 0) := by rw [cell_of_row _ _ _ _ _ _ hcell]; rfl
  have q1 : W3.cell? ⟨Qb, 1, none⟩ = some (.int .u64 0) := by rw [cell_of_row _ _ _ _ _ _ hcell]; rfl
  have f0 : W3.frozen? ⟨Qb, 0, none⟩ = false := by simp [World.frozen?, hcell]
  have f1 : W3.frozen? ⟨Qb, 1, none⟩ = false := by simp [World.frozen?, hcell]
  have T := hid (two_set q0 q1 (.int .u64 ap) (.int .u64 gd))
  have HB2 : Hid (KW W ((W3.setCell ⟨Qb, 0, none⟩ (.int .u64 ap)).setCell ⟨Qb, 1, none⟩ (.int .u64 gd))) := Below.setCell (p := ⟨Qb, 1, none⟩) (Below.setCell (p := ⟨Qb, 0, none⟩) (show Below W.heap.size W W3 from hq) hQb _) hQb _
  have hQlt : Qb < ((W3.setCell ⟨Qb, 0, none⟩ (.int .u64 ap)).setCell ⟨Qb, 1, none⟩ (.int .u64 gd)).heap.size := World.block_lt_of_cell? _ _ T.out.1
  clear hcell
  refine wpX_hard (k := 20) (by kernel_rfl) rfl (fun K hK => ?_)
  go_simp
  refine hK _ _ (fun _ => HSS.out _ HB2.out) ?_
  clear hK K
  try simp only [List.set_cons_zero, List.set_cons_succ]
  refine wpX_done (by kernel_rfl) ?_
  clear q0 q1 f0 f1 hq hQb
  have hX0 := HSS.out _ HB2.out
  generalize ((W3.setCell ⟨Qb, 0, none⟩ (.int .u64 ap)).setCell ⟨Qb, 1, none⟩ (.int .u64 gd)) = V at *
  have HKV := hid (HK1.out.t HB2.out)
  have HQ := hid hQlt
  have HW := hid HB2.out.size
  have HSV := hid (fun U (h : KW V U) => And.intro (HSS.out U (HB2.out.t h)).2.2.2.2.1 (And.intro (HSS.out U (HB2.out.t h)).2.2.2.2.2.1 (And.intro (HSS.out U (HB2.out.t h)).2.2.2.2.2.2.1 (And.intro (HSS.out U (HB2.out.t h)).2.2.2.2.2.2.2.1 (And.intro (HSS.out U (HB2.out.t h)).2.2.2.2.2.2.2.2 (And.intro (KW.cell h HQ.out T.out.1) (KW.cell h HQ.out T.out.2)))))))
  have c0 := hX0.1
  clear hX0 HB2 HR0 HR1 HR2 HSS HP HA HM hQlt
  obtain ⟨hp1, hp2, hap, hgd⟩ := HE.out
  by_cases h1 : k = 1
  · subst h1
    obtain rfl : IntKind.u64.wrap (xv + yv) = ap := hap
    obtain rfl : IntKind.u64.wrap (xd + yd) = gd := hgd.symm.trans (gd_1 xv xd yv yd) |>.symm
    clear hp1 hp2 HE
    go_wp2_with fail
    have hXS := HSV.out _ (KW.refl V).drew
    refine wpX_region (S := fun w' => w'.cell? ⟨w.heap.size, 4, none⟩ = some (.int .u64 v) ∧ w'.cell? ⟨w.heap.size + 1, 0, none⟩ = some (.int .u64 xv) ∧ w'.cell? ⟨w.heap.size + 1, 1, none⟩ = some (.int .u64 xd) ∧ w'.cell? ⟨w.heap.size + 1 + 1, 0, none⟩ = some (.int .u64 yv) ∧ w'.cell? ⟨w.heap.size + 1 + 1, 1, none⟩ = some (.int .u64 yd) ∧ w'.cell? ⟨Qb, 0, none⟩ = some (.int .u64 (IntKind.u64.wrap (xv + yv))) ∧ w'.cell? ⟨Qb, 1, none⟩ = some (.int .u64 (IntKind.u64.wrap (xd + yd)))) (L := 99) (by kernel_rfl) ?_
    refine wpX_take (i := 0) (v := ?_) rfl rfl (by kernel_rfl) (fun _ _ _ h => h) (Or.inl ⟨rfl, fun wS hwS => ?_⟩) hXS ?_
    rotate_left
    · go_simp; try rfl
    simp only [List.set_cons_zero, List.set_cons_succ]
    refine wpX_take (i := 1) (v := ?_) rfl rfl (by kernel_rfl) (fun _ _ _ h => h) (Or.inl ⟨rfl, fun wS hwS => ?_⟩) hXS ?_
    rotate_left
    · go_simp; try rfl
    simp only [List.set_cons_zero, List.set_cons_succ]
    refine wpX_take (i := 2) (v := ?_) rfl rfl (by kernel_rfl) (fun _ _ _ h => h) (Or.inl ⟨rfl, fun wS hwS => ?_⟩) hXS ?_
    rotate_left
    · go_simp; try rfl
    simp only [List.set_cons_zero, List.set_cons_succ]
    clear hXS
    refine wpX_hard (k := 3) (by kernel_rfl) rfl (fun K hK => ?_)
    go_simp
    skip
    refine hK _ _ (fun _ => HSV.out _ ((KW.refl V).drew.alloc (.cells #[.int .u64 xv, .int .u64 xd, .int .u64 yv, .int .u64 yd] 62))) ?_
    clear hK K
    try simp only [List.set_cons_zero, List.set_cons_succ]
    refine wpX_hard (k := 4) (by kernel_rfl) rfl (fun K hK => ?_)
    go_simp
    refine (dadd2 _ xv xd yv yd _ (row2_at' V.drew _ xv xd yv yd)).mono ?_; rintro e v8 ⟨rfl, hb⟩; have HB8 := hid (((KW.refl V).drew.alloc (.cells #[.int .u64 xv, .int .u64 xd, .int .u64 yv, .int .u64 yd] 62)).t hb); clear hb
    refine hK _ _ (fun _ => HSV.out _ HB8.out) ?_
    clear hK K
    try simp only [List.set_cons_zero, List.set_cons_succ]
    have hXS := HSV.out _ HB8.out
    refine wpX_take (i := 5) (v := ?_) rfl rfl (by kernel_rfl) (fun _ _ _ h => h) (Or.inl ⟨rfl, fun wS hwS => ?_⟩) hXS ?_
    rotate_left
    · go_simp; try rfl
    simp only [List.set_cons_zero, List.set_cons_succ]
    refine wpX_take (i := 6) (v := ?_) rfl rfl (by kernel_rfl) (fun _ _ _ h => h) (Or.inl ⟨rfl, fun wS hwS => ?_⟩) hXS ?_
    rotate_left
    · go_simp; try rfl
    simp only [List.set_cons_zero, List.set_cons_succ]
    clear hXS
    refine wpX_hard (k := 7) (by kernel_rfl) rfl (fun K hK => ?_)
    go_simp
    refine (HG.out _).mono ?_; rintro e v9 ⟨rfl, hb⟩; have HB9 := hid (HB8.out.t hb); clear hb
    refine hK _ _ (fun _ => HSV.out _ HB9.out) ?_
    clear hK K
    try simp only [List.set_cons_zero, List.set_cons_succ]
    have hXS := HSV.out _ HB9.out
    refine wpX_take (i := 8) (v := ?_) rfl rfl (by kernel_rfl) (fun _ _ _ h => h) (Or.inl ⟨rfl, fun wS hwS => ?_⟩) hXS ?_
    rotate_left
    · go_simp; try rfl
    simp only [List.set_cons_zero, List.set_cons_succ]
    refine wpX_take (i := 9) (v := ?_) rfl rfl (by kernel_rfl) (fun _ _ _ h => h) (Or.inl ⟨rfl, fun wS hwS => ?_⟩) hXS ?_
    rotate_left
    · go_simp; try rfl
    simp only [List.set_cons_zero, List.set_cons_succ]
    clear hXS
    refine wpX_done (by kernel_rfl) ?_
    go_wp2_with fail
    go_ret
    exact ⟨rfl, HKV.out.t HB9.out⟩
  by_cases h2 : k = 2
  · subst h2
    obtain rfl : IntKind.u64.wrap (xv - yv) = ap := hap
    obtain rfl : IntKind.u64.wrap (xd - yd) = gd := hgd.symm.trans (gd_2 xv xd yv yd) |>.symm
    clear hp1 hp2 HE
    go_wp2_with fail
    have hXS := HSV.out _ (KW.refl V).drew
    refine wpX_region (S := fun w' => w'.cell? ⟨w.heap.size, 4, none⟩ = some (.int .u64 v) ∧ w'.cell? ⟨w.heap.size + 1, 0, none⟩ = some (.int .u64 xv) ∧ w'.cell? ⟨w.heap.size + 1, 1, none⟩ = some (.int .u64 xd) ∧ w'.cell? ⟨w.heap.size + 1 + 1, 0, none⟩ = some (.int .u64 yv) ∧ w'.cell? ⟨w.heap.size + 1 + 1, 1, none⟩ = some (.int .u64 yd) ∧ w'.cell? ⟨Qb, 0, none⟩ = some (.int .u64 (IntKind.u64.wrap (xv - yv))) ∧ w'.cell? ⟨Qb, 1, none⟩ = some (.int .u64 (IntKind.u64.wrap (xd - yd)))) (L := 99) (by kernel_rfl) ?_
    refine wpX_take (i := 0) (v := ?_) rfl rfl (by kernel_rfl) (fun _ _ _ h => h) (Or.inl ⟨rfl, fun wS hwS => ?_⟩) hXS ?_
    rotate_left
    · go_simp; try rfl
    simp only [List.set_cons_zero, List.set_cons_succ]
    refine wpX_take (i := 1) (v := ?_) rfl rfl (by kernel_rfl) (fun _ _ _ h => h) (Or.inl ⟨rfl, fun wS hwS => ?_⟩) hXS ?_
    rotate_left
    · go_simp; try rfl
    simp only [List.set_cons_zero, List.set_cons_succ]
    refine wpX_take (i := 2) (v := ?_) rfl rfl (by kernel_rfl) (fun _ _ _ h => h) (Or.inl ⟨rfl, fun wS hwS => ?_⟩) hXS ?_
    rotate_left
    · go_simp; try rfl
    simp only [List.set_cons_zero, List.set_cons_succ]
    clear hXS
    refine wpX_hard (k := 3) (by kernel_rfl) rfl (fun K hK => ?_)
    go_simp
    refine (dsub_any xv xd yv yd _).mono ?_; rintro e v8 ⟨rfl, hb⟩; have HB8 := hid (show KW V v8 from (KW.refl V).drew.t hb); clear hb
    refine hK _ _ (fun _ => HSV.out _ HB8.out) ?_
    clear hK K
    try simp only [List.set_cons_zero, List.set_cons_succ]
    have hXS := HSV.out _ HB8.out
    refine wpX_take (i := 4) (v := ?_) rfl rfl (by kernel_rfl) (fun _ _ _ h => h) (Or.inl ⟨rfl, fun wS hwS => ?_⟩) hXS ?_
    rotate_left
    · go_simp; try rfl
    simp only [List.set_cons_zero, List.set_cons_succ]
    refine wpX_take (i := 5) (v := ?_) rfl rfl (by kernel_rfl) (fun _ _ _ h => h) (Or.inl ⟨rfl, fun wS hwS => ?_⟩) hXS ?_
    rotate_left
    · go_simp; try rfl
    simp only [List.set_cons_zero, List.set_cons_succ]
    clear hXS
    refine wpX_hard (k := 6) (by kernel_rfl) rfl (fun K hK => ?_)
    go_simp
    refine (HG.out _).mono ?_; rintro e v9 ⟨rfl, hb⟩; have HB9 := hid (HB8.out.t hb); clear hb
    refine hK _ _ (fun _ => HSV.out _ HB9.out) ?_
    clear hK K
    try simp only [List.set_cons_zero, List.set_cons_succ]
    have hXS := HSV.out _ HB9.out
    refine wpX_take (i := 7) (v := ?_) rfl rfl (by kernel_rfl) (fun _ _ _ h => h) (Or.inl ⟨rfl, fun wS hwS => ?_⟩) hXS ?_
    rotate_left
    · go_simp; try rfl
    simp only [List.set_cons_zero, List.set_cons_succ]
    refine wpX_take (i := 8) (v := ?_) rfl rfl (by kernel_rfl) (fun _ _ _ h => h) (Or.inl ⟨rfl, fun wS hwS => ?_⟩) hXS ?_
    rotate_left
    · go_simp; try rfl
    simp only [List.set_cons_zero, List.set_cons_succ]
    clear hXS
    refine wpX_done (by kernel_rfl) ?_
    go_wp2_with fail
    go_ret
    exact ⟨rfl, HKV.out.t HB9.out⟩
  by_cases h3 : k = 3
  · subst h3
    obtain rfl : IntKind.u64.wrap (xv * yv) = ap := hap
    obtain rfl : IntKind.u64.wrap (xv * yd + xd * yv) = gd := hgd.symm.trans (gd_3 xv xd yv yd) |>.symm
    clear hp1 hp2 HE
    go_wp2_with fail
    have hXS := HSV.out _ (KW.refl V).drew
    refine wpX_region (S := fun w' => w'.cell? ⟨w.heap.size, 4, none⟩ = some (.int .u64 v) ∧ w'.cell? ⟨w.heap.size + 1, 0, none⟩ = some (.int .u64 xv) ∧ w'.cell? ⟨w.heap.size + 1, 1, none⟩ = some (.int .u64 xd) ∧ w'.cell? ⟨w.heap.size + 1 + 1, 0, none⟩ = some (.int .u64 yv) ∧ w'.cell? ⟨w.heap.size + 1 + 1, 1, none⟩ = some (.int .u64 yd) ∧ w'.cell? ⟨Qb, 0, none⟩ = some (.int .u64 (IntKind.u64.wrap (xv * yv))) ∧ w'.cell? ⟨Qb, 1, none⟩ = some (.int .u64 (IntKind.u64.wrap (xv * yd + xd * yv)))) (L := 99) (by kernel_rfl) ?_
    refine wpX_take (i := 0) (v := ?_) rfl rfl (by kernel_rfl) (fun _ _ _ h => h) (Or.inl ⟨rfl, fun wS hwS => ?_⟩) hXS ?_
    rotate_left
    · go_simp; try rfl
    simp only [List.set_cons_zero, List.set_cons_succ]
    refine wpX_take (i := 1) (v := ?_) rfl rfl (by kernel_rfl) (fun _ _ _ h => h) (Or.inl ⟨rfl, fun wS hwS => ?_⟩) hXS ?_
    rotate_left
    · go_simp; try rfl
    simp only [List.set_cons_zero, List.set_cons_succ]
    refine wpX_take (i := 2) (v := ?_) rfl rfl (by kernel_rfl) (fun _ _ _ h => h) (Or.inl ⟨rfl, fun wS hwS => ?_⟩) hXS ?_
    rotate_left
    · go_simp; try rfl
    simp only [List.set_cons_zero, List.set_cons_succ]
    clear hXS
    refine wpX_hard (k := 3) (by kernel_rfl) rfl (fun K hK => ?_)
    go_simp
    skip
    refine hK _ _ (fun _ => HSV.out _ ((KW.refl V).drew.alloc (.cells #[.int .u64 xv, .int .u64 xd, .int .u64 yv, .int .u64 yd] 62))) ?_
    clear hK K
    try simp only [List.set_cons_zero, List.set_cons_succ]
    refine wpX_hard (k := 4) (by kernel_rfl) rfl (fun K hK => ?_)
    go_simp
    refine (dmul2 _ xv xd yv yd _ (row2_at' V.drew _ xv xd yv yd)).mono ?_; rintro e v8 ⟨rfl, hb⟩; have HB8 := hid (((KW.refl V).drew.alloc (.cells #[.int .u64 xv, .int .u64 xd, .int .u64 yv, .int .u64 yd] 62)).t hb); clear hb
    refine hK _ _ (fun _ => HSV.out _ HB8.out) ?_
    clear hK K
    try simp only [List.set_cons_zero, List.set_cons_succ]
    have hXS := HSV.out _ HB8.out
    refine wpX_take (i := 5) (v := ?_) rfl rfl (by kernel_rfl) (fun _ _ _ h => h) (Or.inl ⟨rfl, fun wS hwS => ?_⟩) hXS ?_
    rotate_left
    · go_simp; try rfl
    simp only [List.set_cons_zero, List.set_cons_succ]
    refine wpX_take (i := 6) (v := ?_) rfl rfl (by kernel_rfl) (fun _ _ _ h => h) (Or.inl ⟨rfl, fun wS hwS => ?_⟩) hXS ?_
    rotate_left
    · go_simp; try rfl
    simp only [List.set_cons_zero, List.set_cons_succ]
    clear hXS
    refine wpX_hard (k := 7) (by kernel_rfl) rfl (fun K hK => ?_)
    go_simp
    refine (HG.out _).mono ?_; rintro e v9 ⟨rfl, hb⟩; have HB9 := hid (HB8.out.t hb); clear hb
    refine hK _ _ (fun _ => HSV.out _ HB9.out) ?_
    clear hK K
    try simp only [List.set_cons_zero, List.set_cons_succ]
    have hXS := HSV.out _ HB9.out
    refine wpX_take (i := 8) (v := ?_) rfl rfl (by kernel_rfl) (fun _ _ _ h => h) (Or.inl ⟨rfl, fun wS hwS => ?_⟩) hXS ?_
    rotate_left
    · go_simp; try rfl
    simp only [List.set_cons_zero, List.set_cons_succ]
    refine wpX_take (i := 9) (v := ?_) rfl rfl (by kernel_rfl) (fun _ _ _ h => h) (Or.inl ⟨rfl, fun wS hwS => ?_⟩) hXS ?_
    rotate_left
    · go_simp; try rfl
    simp only [List.set_cons_zero, List.set_cons_succ]
    clear hXS
    refine wpX_done (by kernel_rfl) ?_
    go_wp2_with fail
    go_ret
    exact ⟨rfl, HKV.out.t HB9.out⟩
  by_cases h4 : k = 4
  · subst h4
    obtain rfl : IntKind.u64.wrap (-xv) = ap := hap
    obtain rfl : IntKind.u64.wrap (-xd) = gd := hgd.symm.trans (gd_4 xv xd yv yd) |>.symm
    clear hp1 hp2 HE
    go_wp2_with fail
    have hXS := HSV.out _ (KW.refl V).drew
    refine wpX_region (S := fun w' => w'.cell? ⟨w.heap.size, 4, none⟩ = some (.int .u64 v) ∧ w'.cell? ⟨w.heap.size + 1, 0, none⟩ = some (.int .u64 xv) ∧ w'.cell? ⟨w.heap.size + 1, 1, none⟩ = some (.int .u64 xd) ∧ w'.cell? ⟨w.heap.size + 1 + 1, 0, none⟩ = some (.int .u64 yv) ∧ w'.cell? ⟨w.heap.size + 1 + 1, 1, none⟩ = some (.int .u64 yd) ∧ w'.cell? ⟨Qb, 0, none⟩ = some (.int .u64 (IntKind.u64.wrap (-xv))) ∧ w'.cell? ⟨Qb, 1, none⟩ = some (.int .u64 (IntKind.u64.wrap (-xd)))) (L := 99) (by kernel_rfl) ?_
    refine wpX_take (i := 0) (v := ?_) rfl rfl (by kernel_rfl) (fun _ _ _ h => h) (Or.inl ⟨rfl, fun wS hwS => ?_⟩) hXS ?_
    rotate_left
    · go_simp; try rfl
    simp only [List.set_cons_zero, List.set_cons_succ]
    refine wpX_take (i := 1) (v := ?_) rfl rfl (by kernel_rfl) (fun _ _ _ h => h) (Or.inl ⟨rfl, fun wS hwS => ?_⟩) hXS ?_
    rotate_left
    · go_simp; try rfl
    simp only [List.set_cons_zero, List.set_cons_succ]
    clear hXS
    refine wpX_hard (k := 2) (by kernel_rfl) rfl (fun K hK => ?_)
    go_simp
    refine (neg2_any xv xd _).mono ?_; rintro e v8 ⟨rfl, hb⟩; have HB8 := hid (show KW V v8 from (KW.refl V).drew.t hb); clear hb
    refine hK _ _ (fun _ => HSV.out _ HB8.out) ?_
    clear hK K
    try simp only [List.set_cons_zero, List.set_cons_succ]
    have hXS := HSV.out _ HB8.out
    refine wpX_take (i := 3) (v := ?_) rfl rfl (by kernel_rfl) (fun _ _ _ h => h) (Or.inl ⟨rfl, fun wS hwS => ?_⟩) hXS ?_
    rotate_left
    · go_simp; try rfl
    simp only [List.set_cons_zero, List.set_cons_succ]
    refine wpX_take (i := 4) (v := ?_) rfl rfl (by kernel_rfl) (fun _ _ _ h => h) (Or.inl ⟨rfl, fun wS hwS => ?_⟩) hXS ?_
    rotate_left
    · go_simp; try rfl
    simp only [List.set_cons_zero, List.set_cons_succ]
    clear hXS
    refine wpX_hard (k := 5) (by kernel_rfl) rfl (fun K hK => ?_)
    go_simp
    refine (HG.out _).mono ?_; rintro e v9 ⟨rfl, hb⟩; have HB9 := hid (HB8.out.t hb); clear hb
    refine hK _ _ (fun _ => HSV.out _ HB9.out) ?_
    clear hK K
    try simp only [List.set_cons_zero, List.set_cons_succ]
    have hXS := HSV.out _ HB9.out
    refine wpX_take (i := 6) (v := ?_) rfl rfl (by kernel_rfl) (fun _ _ _ h => h) (Or.inl ⟨rfl, fun wS hwS => ?_⟩) hXS ?_
    rotate_left
    · go_simp; try rfl
    simp only [List.set_cons_zero, List.set_cons_succ]
    refine wpX_take (i := 7) (v := ?_) rfl rfl (by kernel_rfl) (fun _ _ _ h => h) (Or.inl ⟨rfl, fun wS hwS => ?_⟩) hXS ?_
    rotate_left
    · go_simp; try rfl
    simp only [List.set_cons_zero, List.set_cons_succ]
    clear hXS
    refine wpX_done (by kernel_rfl) ?_
    go_wp2_with fail
    go_ret
    exact ⟨rfl, HKV.out.t HB9.out⟩
  by_cases h5 : k = 5
  · subst h5
    obtain rfl : v = ap := hap
    obtain rfl : gd = 0 := hgd.symm.trans (gd_5 xv xd yv yd)
    clear hp1 hp2 HE
    go_wp2_with fail
    have hXS := HSV.out _ (KW.refl V).drew
    refine wpX_region (S := fun w' => w'.cell? ⟨w.heap.size, 4, none⟩ = some (.int .u64 v) ∧ w'.cell? ⟨w.heap.size + 1, 0, none⟩ = some (.int .u64 xv) ∧ w'.cell? ⟨w.heap.size + 1, 1, none⟩ = some (.int .u64 xd) ∧ w'.cell? ⟨w.heap.size + 1 + 1, 0, none⟩ = some (.int .u64 yv) ∧ w'.cell? ⟨w.heap.size + 1 + 1, 1, none⟩ = some (.int .u64 yd) ∧ w'.cell? ⟨Qb, 0, none⟩ = some (.int .u64 v) ∧ w'.cell? ⟨Qb, 1, none⟩ = some (.int .u64 0)) (L := 99) (by kernel_rfl) ?_
    refine wpX_take (i := 0) (v := ?_) rfl rfl (by kernel_rfl) (fun _ _ _ h => h) (Or.inl ⟨rfl, fun wS hwS => ?_⟩) hXS ?_
    rotate_left
    · go_simp; try rfl
    simp only [List.set_cons_zero, List.set_cons_succ]
    refine wpX_take (i := 1) (v := ?_) rfl rfl (by kernel_rfl) (fun _ _ _ h => h) (Or.inl ⟨rfl, fun wS hwS => ?_⟩) hXS ?_
    rotate_left
    · go_simp; try rfl
    simp only [List.set_cons_zero, List.set_cons_succ]
    refine wpX_take (i := 2) (v := ?_) rfl rfl (by kernel_rfl) (fun _ _ _ h => h) (Or.inl ⟨rfl, fun wS hwS => ?_⟩) hXS ?_
    rotate_left
    · go_simp; try rfl
    simp only [List.set_cons_zero, List.set_cons_succ]
    clear hXS
    refine wpX_hard (k := 3) (by kernel_rfl) rfl (fun K hK => ?_)
    go_simp
    refine (const_any v _).mono ?_; rintro e v8 ⟨rfl, hb⟩; have HB8 := hid (show KW V v8 from (KW.refl V).drew.t hb); clear hb
    refine hK _ _ (fun _ => HSV.out _ HB8.out) ?_
    clear hK K
    try simp only [List.set_cons_zero, List.set_cons_succ]
    have hXS := HSV.out _ HB8.out
    refine wpX_take (i := 4) (v := ?_) rfl rfl (by kernel_rfl) (fun _ _ _ h => h) (Or.inl ⟨rfl, fun wS hwS => ?_⟩) hXS ?_
    rotate_left
    · go_simp; try rfl
    simp only [List.set_cons_zero, List.set_cons_succ]
    refine wpX_take (i := 5) (v := ?_) rfl rfl (by kernel_rfl) (fun _ _ _ h => h) (Or.inl ⟨rfl, fun wS hwS => ?_⟩) hXS ?_
    rotate_left
    · go_simp; try rfl
    simp only [List.set_cons_zero, List.set_cons_succ]
    clear hXS
    refine wpX_hard (k := 6) (by kernel_rfl) rfl (fun K hK => ?_)
    go_simp
    refine (HG.out _).mono ?_; rintro e v9 ⟨rfl, hb⟩; have HB9 := hid (HB8.out.t hb); clear hb
    refine hK _ _ (fun _ => HSV.out _ HB9.out) ?_
    clear hK K
    try simp only [List.set_cons_zero, List.set_cons_succ]
    have hXS := HSV.out _ HB9.out
    refine wpX_take (i := 7) (v := ?_) rfl rfl (by kernel_rfl) (fun _ _ _ h => h) (Or.inl ⟨rfl, fun wS hwS => ?_⟩) hXS ?_
    rotate_left
    · go_simp; try rfl
    simp only [List.set_cons_zero, List.set_cons_succ]
    refine wpX_take (i := 8) (v := ?_) rfl rfl (by kernel_rfl) (fun _ _ _ h => h) (Or.inl ⟨rfl, fun wS hwS => ?_⟩) hXS ?_
    rotate_left
    · go_simp; try rfl
    simp only [List.set_cons_zero, List.set_cons_succ]
    clear hXS
    refine wpX_done (by kernel_rfl) ?_
    go_wp2_with fail
    go_ret
    exact ⟨rfl, HKV.out.t HB9.out⟩
  by_cases h6 : k = 6
  · subst h6
    obtain rfl : xv = ap := hap
    obtain rfl : xd = gd := ((gd_6 xv xd yv yd z0 z1).symm.trans hgd)
    obtain ⟨s4, s5, s6, s7, s8, s9, sa⟩ := HSV.out _ (KW.refl V)
    clear hp1 hp2 HE
    go_wp2_with (go_at_call 13; refine (HG.out _).mono ?_; rintro e v9 ⟨rfl, hb⟩)
    go_ret
    exact ⟨rfl, HKV.out.t hb⟩
  · have hno : ¬ (1 ≤ k ∧ k ≤ 6) := by omega
    obtain rfl : ap = 0 := hap.symm.trans (app_0 k xv yv v hno)
    obtain rfl : gd = 0 := hgd.symm.trans (gd_0 k xv xd yv yd hno).1
    have e1 : (k == 1) = false := by simpa using h1
    have e2 : (k == 2) = false := by simpa using h2
    have e3 : (k == 3) = false := by simpa using h3
    have e4 : (k == 4) = false := by simpa using h4
    have e5 : (k == 5) = false := by simpa using h5
    have e6 : (k == 6) = false := by simpa using h6
    obtain ⟨s4, s5, s6, s7, s8, s9, sa⟩ := HSV.out _ (KW.refl V)
    clear hp1 hp2 HE hno h1 h2 h3 h4 h5 h6
    go_wp2_with (go_at_call 13; refine (HG.out _).mono ?_; rintro e v9 ⟨rfl, hb⟩)
    go_ret
    exact ⟨rfl, HKV.out.t hb⟩
theorem derives_law (k d ra rb v xv xd yv yd : Int) (w : World) (_ : i64ok k) (_ : i64ok d) (_ : i64ok ra) (_ : i64ok rb) (v0 : 0 ≤ v) (v1 : v ≤ 18446744073709551615) (x0 : 0 ≤ xv) (x1 : xv ≤ 18446744073709551615) (z0 : 0 ≤ xd) (z1 : xd ≤ 18446744073709551615) (y0 : 0 ≤ yv) (y1 : yv ≤ 18446744073709551615) (u0 : 0 ≤ yd) (u1 : yd ≤ 18446744073709551615) :
    Calls Try.prog 12 #[.agg (opv k d ra rb v), .agg #[.int .u64 xv, .int .u64 xd], .agg #[.int .u64 yv, .int .u64 yd]] w fun e w' => e = .returned (.bool true) ∧ KW w w' :=
  derives_walk k d ra rb v xv xd yv yd w v0 v1 x0 x1 z0 z1 y0 y1 u0 u1
end Go.Proofs.Ytnpgiallgcliiaa
