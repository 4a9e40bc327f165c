/- The reference's part, which calls itself, and List (layer 30). -/
import Derived.Test.YtgadkelldbibgaaV16
import Derived.Test.YtgadkelldbibgaaPlainA
namespace Go.Proofs.Ytgadkelldbibgaa
open Go.ChangeShapes Go.WideShapes Go.ChangeAt Go.RowKit
set_option linter.unusedVariables false

theorem Owns.keepA {w w' : World} {B base : Nat} {v u : Value} {l : List Bool} {acts : List Mc.Act} (h : Owns w B 4 v (bls l)) (hg : OwnsA w base u acts) (hk : Keep (fun i => u.ownBlock = some i) w w') : Owns w' B 4 v (bls l) := by
  refine hk.owns h fun b hb hu => ?_
  rcases h.2 with ⟨rfl, _⟩ | ⟨g1, cap, cur, rfl, _, hg1, _⟩
  · cases hb
  · rcases hg.2 with ⟨rfl, _⟩ | ⟨g2, cap2, cur2, rfl, _, hg2, _⟩
    · cases hu
    · simp only [Value.ownBlock, Option.some.injEq] at hb hu
      subst hb
      subst hu
      rw [hg1] at hg2
      simp at hg2
theorem OwnsA.made (w : World) {base : Nat} (hb : base ≤ w.heap.size) (l : List Mc.Act) (h0 : l.length ≤ 1000) : OwnsA (w.alloc (.cells (acl l).toArray 27)) base (.slice (some ⟨w.heap.size, 0, none⟩) l.length l.length) l :=
  ⟨by rw [acl_len], .inr ⟨w.heap.size, l.length, (acl l).toArray, rfl, hb, heap_alloc_new w _, Nat.le_refl _, by unfold maxLen; omega, by rw [List.size_toArray, acl_len], by rw [← acl_len]; simp⟩⟩
/-- a list that grows beside bools that stay -/
structure AccB (w : World) (v : Value) (own : List Bool) (vo : Value) (l : List Mc.Act) (W : World) : Prop where
  ow : OwnsA W w.heap.size vo l
  bl : Owns W w.heap.size 4 v (bls own)
  kw : KW w W
theorem AccB.k {w : World} {v : Value} {own : List Bool} {vo : Value} {l : List Mc.Act} {W W' : World} (h : AccB w v own vo l W) (k : KW W W') : AccB w v own vo l W' := ⟨h.ow.kw k, h.bl.on k, h.kw.t k⟩
section
variable {ops : Array Oper} {Q : Exit → Act → World → Prop}
theorem accb_list {rest : List Oper} {o : Oper} {a : Act} (hgd : o.guard = none) {s x : Operand} (ho : o.op = .call { callee := .builtin .append, args := #[s, x], argTypes := #[31, 31] })
    {w W : World} {v vo u : Value} {own : List Bool} {l l2 : List Mc.Act} (hA : AccB w v own vo l W) (hs : a.eval s = vo) (hx : a.eval x = u) (hu : Holds W u l2.length 2 (acl l2)) (hl : l.length + l2.length ≤ 8000000000)
    (h : ∀ l' A' c' w', Hid (l' = l ++ l2) → Hid (AccB w v own (.slice A' l'.length c') l' w') → wpList Try.prog ops Q rest (a.put o.dst (.slice A' l'.length c')) w') :
    wpList Try.prog ops Q (o :: rest) a W := by
  refine wpList_appA hgd sliceAct ho (W := W) (base := w.heap.size) (k := l2.length) (n := l.length) (v := vo) (u := u) (xs := acl l) (ys := acl l2) hs hx hu hA.ow hA.kw.size (by omega) (by omega) fun v5 w5 hown5 hkeep5 hv5 => ?_
  have hO5 : OwnsA w5 w.heap.size v5 (l ++ l2) := OwnsA.app hown5
  obtain ⟨A5, c5, hv5', _, _⟩ := hO5.slice
  subst hv5'
  have hB5 : AccB w v own (.slice A5 (l ++ l2).length c5) (l ++ l2) w5 := ⟨hO5, hA.bl.keepA hA.ow hkeep5, hA.kw.kept hkeep5 fun i hi => (hA.ow.lt hi).1⟩
  exact h (l ++ l2) A5 c5 w5 rfl hB5
theorem accb_one {rest : List Oper} {o : Oper} {a : Act} (hgd : o.guard = none) {s x : Operand} (ho : o.op = .call { callee := .builtin .append, args := #[s, x], argTypes := #[31, 31] })
    {w W : World} {v vo : Value} {own : List Bool} {l : List Mc.Act} {p q : Int} (hA : AccB w v own vo l W) (hs : a.eval s = vo) (hx : a.eval x = .slice (some ⟨W.heap.size, 0, none⟩) 1 1) (hl : l.length + 1 ≤ 8000000000)
    (h : ∀ l' A' c' w', Hid (l' = l ++ [(p, q)]) → Hid (AccB w v own (.slice A' l'.length c') l' w') → wpList Try.prog ops Q rest (a.put o.dst (.slice A' l'.length c')) w') :
    wpList Try.prog ops Q (o :: rest) a (W.alloc (.cells #[.int .i64 p, .int .i64 q] 27)) :=
  accb_list hgd ho (l2 := [(p, q)]) (hA.k ((KW.refl W).alloc _)) hs hx (Holds.new (w := W) (t := 27) (k := 1) (size := 2) (c := 1) (ys := [.int .i64 p, .int .i64 q]) rfl rfl) hl h
theorem accb_two {rest : List Oper} {o : Oper} {a : Act} (hgd : o.guard = none) {s x : Operand} (ho : o.op = .call { callee := .builtin .append, args := #[s, x], argTypes := #[31, 31] })
    {w W : World} {v vo : Value} {own : List Bool} {l : List Mc.Act} {p q p2 q2 : Int} (hA : AccB w v own vo l W) (hs : a.eval s = vo) (hx : a.eval x = .slice (some ⟨W.heap.size, 0, none⟩) 2 2) (hl : l.length + 2 ≤ 8000000000)
    (h : ∀ l' A' c' w', Hid (l' = l ++ [(p, q), (p2, q2)]) → Hid (AccB w v own (.slice A' l'.length c') l' w') → wpList Try.prog ops Q rest (a.put o.dst (.slice A' l'.length c')) w') :
    wpList Try.prog ops Q (o :: rest) a (W.alloc (.cells #[.int .i64 p, .int .i64 q, .int .i64 p2, .int .i64 q2] 27)) :=
  accb_list hgd ho (l2 := [(p, q), (p2, q2)]) (hA.k ((KW.refl W).alloc _)) hs hx (Holds.new (w := W) (t := 27) (k := 2) (size := 2) (c := 2) (ys := [.int .i64 p, .int .i64 q, .int .i64 p2, .int .i64 q2]) rfl rfl) hl h
end
/-- what part leaves -/
def PartP (acts : List Mc.Act) (w : World) (e : Ending) (w' : World) : Prop := ∃ v, e = .returned v ∧ OwnsA w' w.heap.size v acts ∧ KW w w'
def kindOf (last : Bool) : Int := if last then 6 else 7
set_option maxRecDepth 100000 in
set_option maxHeartbeats 4000000 in
theorem rpart_one (c : Int) (l : List Bool) (last : Bool) (A : Option Addr) (N cp : Nat) (w : World) :
    Calls Try.prog 47 #[.int .i64 1, .int .i64 c, .slice A N cp, .bool last] w (PartP [Rv.turn last] w) := by
  unfold PartP
  have H6 := hid (OwnsA.made (w.alloc (.cells #[.int .i64 6, .int .i64 0] 27)) (base := w.heap.size) (by simp) [(6, 0)] (by simp))
  have H7 := hid (OwnsA.made (w.alloc (.cells #[.int .i64 7, .int .i64 0] 27)) (base := w.heap.size) (by simp) [(7, 0)] (by simp))
  have hk6 := ((KW.refl w).alloc (.cells #[.int .i64 6, .int .i64 0] 27)).alloc (.cells (acl [(6, 0)]).toArray 27)
  have hk7 := ((KW.refl w).alloc (.cells #[.int .i64 7, .int .i64 0] 27)).alloc (.cells (acl [(7, 0)]).toArray 27)
  have HK6 := hid hk6
  have HK7 := hid hk7
  clear hk6 hk7
  have hs6 : (w.alloc (.cells #[.int .i64 6, .int .i64 0] 27)).heap.size = w.heap.size + 1 := by simp
  have hs7 : (w.alloc (.cells #[.int .i64 7, .int .i64 0] 27)).heap.size = w.heap.size + 1 := by simp
  rw [hs6] at H6
  rw [hs7] at H7
  clear hs6 hs7
  cases last with
  | true =>
    go_enter Try.func47, Try.ntmps47
    go_wp2_with fail
    go_ret
    exact ⟨_, rfl, H6.out, HK6.out⟩
  | false =>
    go_enter Try.func47, Try.ntmps47
    go_wp2_with fail
    go_ret
    exact ⟨_, rfl, H7.out, HK7.out⟩
set_option maxRecDepth 100000 in
set_option maxHeartbeats 4000000 in
theorem rpart_more (n c : Nat) (l : List Bool) (last : Bool) (A : Option Addr) (cp : Nat) (w : World) (hn : 2 ≤ n) (hn2 : n ≤ 65535) (hc : 1 ≤ c) (hc2 : c ≤ 1048576) (hl : l.length ≤ 1048576) (hnf : Rv.nf l = c) (hr : Row1 w A l.length fun i => .bool (l.getD i false))
    (ih : ∀ q, q < n → 1 ≤ q → ∀ (d : Nat) (own : List Bool) (la : Bool) (B : Option Addr) (cp2 : Nat) (W : World), (2 ≤ q → 1 ≤ d) → d ≤ 1048576 → own.length ≤ 1048576 → Rv.nf own = d → (Row1 W B own.length fun i => .bool (own.getD i false)) → Calls Try.prog 47 #[.int .i64 q, .int .i64 d, .slice B own.length cp2, .bool la] W (PartP (Rv.ptn q d own la) W)) :
    Calls Try.prog 47 #[.int .i64 n, .int .i64 c, .slice A l.length cp, .bool last] w (PartP (Rv.ptn n c l last) w) := by
  have hpl := Rv.ptn_len (n := n) (c := c) (held := l) (last := last) (by omega) (fun _ => hc) (by omega)
  have hpm := Rv.ptn_more (n := n) (c := c) (held := l) (last := last) hn
  obtain ⟨hk1, hk2⟩ := Rv.nf_lst (l := l) (by omega)
  have HLe := hid (fun W (h : Row1 W A l.length fun i => .bool (l.getD i false)) => rleast_any l A cp W hl h)
  have HWi := hid (fun W (h : Row1 W A l.length fun i => .bool (l.getD i false)) => rwith_any l A cp (Rv.lst l) true W hl hk1 h)
  have hon : (l.set (Rv.lst l) true).length = l.length := by simp
  have HR := hid hr
  generalize Rv.ptn n c l last = acts at *
  generalize Rv.lst l = k at *
  generalize l.set k true = own at *
  generalize hN : l.length = N at *
  have HIH := hid ih
  have HOn := hid hon
  have HPm := hid hpm
  have HPl := hid hpl
  have HSp := hid (fun (q : Nat) W (h1 : 2 ≤ q) (h2 : q ≤ 65535) => rsplit_yes q c W h1 h2 hc hc2)
  have HSa := hid (fun (q : Nat) (h1 : 2 ≤ q) (h2 : q ≤ 65535) => Rv.sp_all q c hc h1 (by omega))
  have HLm := hid (fun (q m : Nat) (la : Bool) (h1 : 2 ≤ q) (h2 : q ≤ 65535) hm m1 m2 m3 => Rv.lpn_more (n := q) (c := c) (m := m) (k := k) (own := own) (last := la) h1 (by omega) hc hm m1 m2 m3)
  clear ih hr hpl hpm hon
  have e1 : ((n : Int) == 1) = false := by rw [beq_eq_false_iff_ne]; omega
  have e1' : (n == 1) = false := by rw [beq_eq_false_iff_ne]; omega
  have HKt : Hid (KW w (w.alloc (.cells #[.int .i64 (kindOf last), .int .i64 0] 27))) := (KW.refl w).alloc _
  unfold PartP at HIH ⊢
  cases last
  all_goals
    simp only [kindOf] at HKt
    go_enter Try.func47, Try.ntmps47
    go_wp2_with fail
    refine (HLe.out _ (HR.out.k HKt.out)).mono ?_
    rintro e w1 ⟨rfl, rfl⟩
    go_wp2_with fail
    refine (HWi.out _ (HR.out.k HKt.out)).mono ?_
    rintro e w1 ⟨v1, rfl, ho1, hkw1⟩
    obtain ⟨A1, c1, hv1, _⟩ := ho1.rowB
    rw [HOn.out] at hv1
    subst hv1
    have HOw1 := hid (ho1.base HKt.out.size)
    have HK1 := hid (HKt.out.t hkw1)
    clear ho1 hkw1
    go_wp2_with fail
    have HM := hid (OwnsA.made w1 (base := w.heap.size) HK1.out.size [(2, (k : Int))] (by simp))
    have HAc : Hid (AccB w (.slice A1 N c1) own (.slice (some ⟨w1.heap.size, 0, none⟩) 1 1) [(2, (k : Int))] (w1.alloc (.cells #[.int .i64 2, .int .i64 k] 27))) := ⟨HM.out, HOw1.out.on ((KW.refl w1).alloc _), HK1.out.alloc _⟩
    clear HM HOw1 HK1 HKt
    go_loopw [0, 3, 12] (fun t0 t3 vo wr => ∃ (q : Nat) (la : Bool) (pre : List Mc.Act), t0 = .int .i64 q ∧ t3 = .bool la ∧ 1 ≤ q ∧ q ≤ n ∧ Hid (q = 1 → la = false) ∧ Hid (acts = pre ++ Rv.lpn q c k own la) ∧ Hid (AccB w (.slice A1 N c1) own vo pre wr)) (fun t0 _ _ _ => (intOf t0).toNat)
    case atStart => exact ⟨n, _, [(2, (k : Int))], rfl, rfl, by omega, Nat.le_refl _, fun h => by omega, HPm.out, HAc⟩
    case round =>
      obtain ⟨q, la, pre, rfl, rfl, hq1, hqn, HLa, HAe, HAc1⟩ := hrel
      clear HAc
      obtain ⟨Ao, co, hvo, _, _⟩ := HAc1.out.ow.slice
      subst hvo
      have HPq : Hid (pre.length ≤ acts.length) := by rw [HAe.out]; exact hid (by simp)
      by_cases h2 : 2 ≤ q
      · obtain ⟨m, hm, m1, m2, m3, _⟩ := HSa.out q h2 (by omega)
        have HSq := hid (fun W => HSp.out q W h2 (by omega))
        rw [hm] at HSq
        have HAm : Hid (acts = pre ++ (1, (m : Int)) :: (Rv.ptn (q - m) (c - 1) own la ++ (3, (k : Int)) :: Rv.lpn m c k own false)) := by rw [← HLm.out q m la h2 (by omega) hm m1 m2 m3]; exact HAe
        have HP := hid (fun W (h : Row1 W A1 own.length fun i => .bool (own.getD i false)) => HIH.out (q - m) (by omega) (by omega) (c - 1) own la A1 c1 W (fun h => by
          apply Classical.byContradiction
          intro hc0
          have := m3 (by omega)
          omega) (by omega) (by rw [HOn.out]; exact hl) (by omega) h)
        have eqm : ((q - m : Nat) : Int) = (q : Int) - m := by omega
        have ec : ((c - 1 : Nat) : Int) = (c : Int) - 1 := by omega
        rw [eqm, ec, HOn.out] at HP
        have HPlen : Hid (pre.length + 1 + (Rv.ptn (q - m) (c - 1) own la).length + 1 ≤ acts.length) := by
          rw [HAm.out]
          simp only [List.length_append, List.length_cons]
          exact hid (by omega)
        generalize Rv.ptn (q - m) (c - 1) own la = PP at *
        have hplen := HPlen.out
        have hple := HPl.out
        have L4 : (1 : Int) < (q : Int) := by omega
        have L5 : (q : Int) ≤ 65535 := by omega
        have L6 : (c : Int) ≤ 1048576 := by omega
        have L7 : (m : Int) < (q : Int) := by omega
        have L8 : (1 : Int) ≤ (m : Int) := by omega
        have L9 : (1 : Int) ≤ (c : Int) := by omega
        have hl1 : pre.length + 1 ≤ 8000000000 := by omega
        clear hm HAe HLa
        go_wp2_with fail
        refine (HSq.out _).mono ?_
        rintro e w2 ⟨rfl, hk2⟩
        have HA2 := hid (HAc1.out.k hk2)
        clear hk2
        go_wp2_with (at_builtin; refine accb_one (p := 1) (q := (m : Int)) rfl rfl HA2.out rfl rfl hl1 ?_; intro l3 A3 c3 w3 E3 H3)
        have HB3 := hid (by
          obtain ⟨_, _, hv, hr3⟩ := H3.out.bl.rowB
          rw [HOn.out] at hv hr3
          cases hv
          exact hr3 : Row1 w3 A1 N fun i => .bool (own.getD i false))
        refine (HP.out _ HB3.out).mono ?_
        rintro e w4 ⟨v4, rfl, ho4, hk4⟩
        obtain ⟨A4, c4, hv4, _, _⟩ := ho4.slice
        subst hv4
        have HH4 := hid ho4.holds
        have HA4 := hid (H3.out.k hk4)
        have hl3 : l3.length + PP.length ≤ 8000000000 := by rw [E3.out, List.length_append]; show pre.length + 1 + _ ≤ _; omega
        have hl3' : l3.length = pre.length + 1 := by rw [E3.out, List.length_append]; rfl
        have hl4 : ∀ l4 : List Mc.Act, Hid (l4 = l3 ++ PP) → l4.length + 1 ≤ 8000000000 := fun l4 h => by rw [h.out, List.length_append]; omega
        have HL4 := hid hl4
        have HL3 := hid hl3
        clear ho4 hk4 hl3 hl4 hl3'
        go_wp2_with (first
          | (at_builtin; refine accb_list (l2 := PP) (u := .slice A4 PP.length c4) (vo := .slice A3 l3.length c3) rfl rfl HA4.out rfl rfl HH4.out HL3.out ?_; intro l5 A5 c5 w5 E5 H5)
          | (at_builtin; refine accb_one (p := 3) (q := (k : Int)) rfl rfl H5.out rfl rfl (HL4.out _ E5) ?_; intro l6 A6 c6 w6 E6 H6))
        have HA6 : Hid (acts = l6 ++ Rv.lpn m c k own false) := by
          rw [HAm.out, E6.out, E5.out, E3.out]
          exact hid (by simp)
        go_roundw
        case rel => exact ⟨m, false, l6, rfl, rfl, by omega, by omega, fun _ => rfl, HA6, H6⟩
        case measure => simp [intOf]; omega
      · obtain rfl : q = 1 := by omega
        have hla := HLa.out rfl
        subst hla
        have HAe1 : Hid (acts = pre ++ [(7, 0), (4, (k : Int))]) := HAe
        have hpl2 : pre.length + 2 ≤ 8000000000 := by
          have h1 := HPl.out
          rw [HAe1.out, List.length_append] at h1
          simp only [List.length_cons, List.length_nil] at h1
          omega
        have d : decide ((1 : Int) < ((1 : Nat) : Int)) = false := by decide
        clear h2
        go_wp2_with (at_builtin; refine accb_two (p := 7) (q := 0) (p2 := 4) (q2 := (k : Int)) rfl rfl HAc1.out rfl rfl hpl2 ?_; intro l6 A6 c6 w6 E6 H6)
        go_ret
        exact ⟨_, rfl, by rw [HAe1.out, ← E6.out]; exact H6.out.ow, H6.out.kw⟩
theorem rpart_any : ∀ (n : Nat), 1 ≤ n → n ≤ 65535 → ∀ (c : Nat) (l : List Bool) (last : Bool) (A : Option Addr) (cp : Nat) (w : World), (2 ≤ n → 1 ≤ c) → c ≤ 1048576 → l.length ≤ 1048576 → Rv.nf l = c → (Row1 w A l.length fun i => .bool (l.getD i false)) →
    Calls Try.prog 47 #[.int .i64 n, .int .i64 c, .slice A l.length cp, .bool last] w (PartP (Rv.ptn n c l last) w) := by
  intro n
  induction n using Nat.strongRecOn with
  | _ n ih =>
    intro h1 h2 c l last A cp w hc hc2 hl hnf hr
    by_cases e : n = 1
    · subst e
      exact rpart_one c l last A l.length cp w
    · exact rpart_more n c l last A cp w (by omega) h2 (hc (by omega)) hc2 hl hnf hr fun q hq hq1 d own la B cp2 W hd hd2 hol hon hrow => ih q hq hq1 (by omega) d own la B cp2 W hd hd2 hol hon hrow
theorem row1_made (w : World) (n : Nat) : Row1 (w.alloc (.cells (madeCells #[.bool false] n) 4)) (some ⟨w.heap.size, 0, none⟩) n fun i => .bool ((List.replicate n false).getD i false) := by
  intro h0
  have hr := World.rowIs_made w (.bool false) n 4
  refine ⟨w.heap.size, 0, rfl, hr.lt, fun k hk => ?_⟩
  rw [Nat.zero_add, hr.cell hk]
  simp [hk]
theorem rlist30_no (l s : Int) (w : World) (h : l < 0 ∨ 65536 ≤ l ∨ s < 1 ∨ 1048576 < s) :
    Calls Try.prog 19 #[.int .i64 l, .int .i64 s] w (ActsP w [] 2) := by
  unfold ActsP
  have hk := KW.refl w
  have hx : l < 0 ∨ (decide (l < 0) = false ∧ 65536 ≤ l) ∨ (decide (l < 0) = false ∧ decide (65536 ≤ l) = false ∧ s < 1) ∨ (decide (l < 0) = false ∧ decide (65536 ≤ l) = false ∧ decide (s < 1) = false ∧ 1048576 < s) := by
    simp only [decide_eq_false_iff_not]
    omega
  clear h
  rcases hx with h0 | ⟨d0, h1⟩ | ⟨d0, d1, h2⟩ | ⟨d0, d1, d2, h3⟩
  all_goals
    go_enter Try.func19, Try.ntmps19
    go_wp2_with fail
    go_ret2
    exact ⟨none, 0, rfl, OwnsA.nil _ _, hk⟩
set_option maxHeartbeats 1000000 in
theorem rlist30_yes (L n : Nat) (w : World) (hL : L < 65536) (hn : 1 ≤ n ∧ n ≤ 1048576) :
    Calls Try.prog 19 #[.int .i64 L, .int .i64 n] w (ActsP w (Rv.rl L n) 0) := by
  unfold ActsP
  have d0 : decide ((L : Int) < 0) = false := decide_eq_false (by omega)
  have d1 : decide (65536 ≤ (L : Int)) = false := decide_eq_false (by omega)
  have d2 : decide ((n : Int) < 1) = false := decide_eq_false (by omega)
  have d3 : decide (1048576 < (n : Int)) = false := decide_eq_false (by omega)
  have L1 : (n : Int) ≤ 1048576 := by omega
  by_cases h0 : L = 0
  · subst h0
    have HM := hid (OwnsA.made w (Nat.le_refl _) [(5, 0)] (by simp))
    have HK := hid ((KW.refl w).alloc (.cells (acl [(5, 0)]).toArray 27))
    have hrl : Rv.rl 0 n = [(5, 0)] := rfl
    rw [hrl]
    go_enter Try.func19, Try.ntmps19
    go_wp2_with fail
    go_ret2
    exact ⟨_, _, rfl, HM.out, HK.out⟩
  · have hrl : Rv.rl L n = Rv.ptn L n (List.replicate n false) true := by unfold Rv.rl Rv.ptn; rw [if_neg h0]
    rw [hrl]
    have HP := hid (fun W A cp h => rpart_any L (by omega) (by omega) n (List.replicate n false) true A cp W (fun _ => hn.1) hn.2 (by simpa using hn.2) (Rv.nf_rep n) h)
    rw [List.length_replicate] at HP
    have HR := hid (row1_made w n)
    have HK := hid ((KW.refl w).alloc (.cells (madeCells #[.bool false] n) 4))
    have e0 : ((L : Int) == 0) = false := by rw [beq_eq_false_iff_ne]; omega
    have e1 : (L == 0) = false := by rw [beq_eq_false_iff_ne]; omega
    have hmk := fun W => run_make_row' (P := Try.prog) 81 4 (.bool false) 1 Try.underlying81 (by kernel_rfl) rfl .i64 .i64 n (by omega) (by omega) W
    unfold PartP at HP
    generalize Rv.ptn L n (List.replicate n false) true = acts at *
    clear hrl
    go_enter Try.func19, Try.ntmps19
    go_wp2_with fail
    refine (HP.out _ _ _ HR.out).mono ?_
    rintro e w2 ⟨v2, rfl, ho, hk⟩
    obtain ⟨A2, c2, hv2, _, _⟩ := ho.slice
    subst hv2
    have HO := hid (ho.base HK.out.size)
    have HK2 := hid (HK.out.t hk)
    clear ho hk
    go_wp2_with fail
    go_ret2
    exact ⟨_, _, rfl, HO.out, HK2.out⟩
end Go.Proofs.Ytgadkelldbibgaa
