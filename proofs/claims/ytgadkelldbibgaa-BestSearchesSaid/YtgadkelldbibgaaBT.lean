/- Several texts in one. -/
import Derived.Test.YtgadkelldbibgaaTT
import Derived.RegionTactic
import Derived.WalkMore
import Derived.Test.YtgadkelldbibgaaBS
import Derived.Deep.LoopGhost
import Derived.Test.YtgadkelldbibgaaOrd2
import Derived.Scope
import Derived.Deep.Cut
/- slices.Reverse of a list of actions. -/
namespace Go.Proofs.Ytgadkelldbibgaa
open Go.ChangeShapes Go.WideShapes Go.ChangeAt Go.RowKit
set_option linter.unusedVariables false

theorem acl_set : ∀ (l : List Mc.Act) (i : Nat) (a : Mc.Act), ((acl l).set (i * 2) (.int .i64 a.1)).set (i * 2 + 1) (.int .i64 a.2) = acl (l.set i a)
  | [], i, a => by simp [acl]
  | x :: l, 0, a => rfl
  | x :: l, i + 1, a => by
    have e : acl (x :: l) = .int .i64 x.1 :: .int .i64 x.2 :: acl l := rfl
    have e2 : (x :: l).set (i + 1) a = x :: l.set i a := rfl
    have e3 : acl (x :: l.set i a) = .int .i64 x.1 :: .int .i64 x.2 :: acl (l.set i a) := rfl
    rw [e, e2, e3, ← acl_set l i a, show (i + 1) * 2 = i * 2 + 1 + 1 by omega]
    simp only [List.set_cons_succ]

/-- an action written -/
def setA (w : World) (g i : Nat) (a : Mc.Act) : World := (w.setCell ⟨g, i * 2, none⟩ (.int .i64 a.1)).setCell ⟨g, i * 2 + 1, none⟩ (.int .i64 a.2)
theorem OwnsA.set {w : World} {base g c : Nat} {l : List Mc.Act} (h : OwnsA w base (.slice (some ⟨g, 0, none⟩) l.length c) l) {i : Nat} (hi : i < l.length) (a : Mc.Act) : OwnsA (setA w g i a) base (.slice (some ⟨g, 0, none⟩) (l.set i a).length c) (l.set i a) := by
  rcases h.2 with ⟨hv, _⟩ | ⟨g', cap, cur, hv, hb, hg, hc, hm, hs, ht⟩
  · cases hv
  · cases hv
    refine ⟨acl_len _, .inr ⟨g, c, (cur.setIfInBounds (i * 2) (.int .i64 a.1)).setIfInBounds (i * 2 + 1) (.int .i64 a.2), rfl, hb, ?_, by rw [List.length_set]; exact hc, hm, by simpa using hs, ?_⟩⟩
    · have h1 := heap_setCell_same w g (i * 2) cur 27 (.int .i64 a.1) hg
      exact heap_setCell_same (w.setCell ⟨g, i * 2, none⟩ (.int .i64 a.1)) g (i * 2 + 1) _ 27 (.int .i64 a.2) h1
    · rw [List.length_set, Array.toList_setIfInBounds, Array.toList_setIfInBounds, ← acl_set, ← ht, List.take_set, List.take_set]
theorem setA_keep (w : World) (g i : Nat) (a : Mc.Act) : Keep (· = g) w (setA w g i a) := (Keep.setCell (own := (· = g)) (Keep.refl _ w) ⟨g, i * 2, none⟩ _ rfl).setCell ⟨g, i * 2 + 1, none⟩ _ rfl

/-- turned from both ends, so far -/
def rv1 (l : List Mc.Act) (i : Nat) : List Mc.Act := (List.range l.length).map fun p => if p < i ∨ l.length - 1 - i < p then l.getD (l.length - 1 - p) (0, 0) else l.getD p (0, 0)
theorem rv1_len (l : List Mc.Act) (i : Nat) : (rv1 l i).length = l.length := by simp [rv1]
theorem rv1_get (l : List Mc.Act) (i : Nat) {p : Nat} (hp : p < l.length) : (rv1 l i).getD p (0, 0) = if p < i ∨ l.length - 1 - i < p then l.getD (l.length - 1 - p) (0, 0) else l.getD p (0, 0) := by
  simp [rv1, hp]
theorem ext_getD {l l' : List Mc.Act} (h : l.length = l'.length) (hp : ∀ p, p < l.length → l.getD p (0, 0) = l'.getD p (0, 0)) : l = l' := by
  apply List.ext_getElem h
  intro p h1 h2
  have := hp p h1
  simpa [h1, h2] using this
theorem rv1_zero (l : List Mc.Act) : rv1 l 0 = l := by
  refine ext_getD (rv1_len l 0) fun p hp => ?_
  rw [rv1_len] at hp
  rw [rv1_get l 0 hp, if_neg (by omega)]
theorem rv1_end (l : List Mc.Act) (i : Nat) (h : l.length ≤ 2 * i + 1) : rv1 l i = l.reverse := by
  refine ext_getD (by rw [rv1_len, List.length_reverse]) fun p hp => ?_
  rw [rv1_len] at hp
  rw [rv1_get l i hp]
  have hr : l.reverse.getD p (0, 0) = l.getD (l.length - 1 - p) (0, 0) := by
    simp [List.getElem?_reverse hp]
  rw [hr]
  by_cases hc : p < i ∨ l.length - 1 - i < p
  · rw [if_pos hc]
  · rw [if_neg hc, show l.length - 1 - p = p by omega]
theorem rv1_succ (l : List Mc.Act) (i : Nat) (h : i < l.length - 1 - i) : rv1 l (i + 1) = ((rv1 l i).set i ((rv1 l i).getD (l.length - 1 - i) (0, 0))).set (l.length - 1 - i) ((rv1 l i).getD i (0, 0)) := by
  refine ext_getD (by simp [rv1_len]) fun p hp => ?_
  rw [rv1_len] at hp
  have hL : (rv1 l i).length = l.length := rv1_len l i
  have ej := rv1_get l i (p := l.length - 1 - i) (by omega)
  have ei := rv1_get l i (p := i) (by omega)
  rw [if_neg (by omega)] at ej ei
  rw [rv1_get l (i + 1) hp, ej, ei]
  simp only [List.getD_eq_getElem?_getD, List.getElem?_set, List.length_set, hL]
  by_cases h1 : l.length - 1 - i = p
  · subst h1
    rw [if_pos (Or.inr (by omega)), if_pos rfl, if_pos (by omega), show l.length - 1 - (l.length - 1 - i) = i by omega]
    simp
  · rw [if_neg h1]
    by_cases h2 : i = p
    · subst h2
      rw [if_pos (Or.inl (by omega)), if_pos rfl, if_pos (by omega)]
      simp
    · rw [if_neg h2]
      have := rv1_get l i hp
      simp only [List.getD_eq_getElem?_getD] at this
      rw [this]
      by_cases h3 : p < i ∨ l.length - 1 - i < p
      · rw [if_pos h3, if_pos (by omega)]
      · rw [if_neg h3, if_neg (by omega)]

set_option maxRecDepth 100000 in
set_option maxHeartbeats 1000000 in
theorem reverse_acts (w : World) (base : Nat) (v : Value) (l : List Mc.Act) (h : OwnsA w base v l) (hl : l.length ≤ 1099511627776) :
    Calls Try.prog 103 #[v] w fun e w' => e = .returned (.tuple #[]) ∧ OwnsA w' base v l.reverse ∧ Keep (fun i => v.ownBlock = some i) w w' := by
  rcases h.2 with ⟨rfl, h0⟩ | ⟨g, cap, cur, rfl, hb, hg, hc, hm, hs, ht⟩
  · obtain rfl : l = [] := List.length_eq_zero_iff.1 h0
    have HH := hid h
    clear h
    go_enter Try.func103, Try.ntmps103
    go_wp2
    go_loopw [2, 3] (fun i j wr => i = .int .i64 0 ∧ j = .int .i64 (-1) ∧ wr = w) (fun _ _ _ => 0)
    case atStart => exact ⟨rfl, rfl, rfl⟩
    case round =>
      obtain ⟨rfl, rfl, rfl⟩ := hrel
      go_wp2
      go_end0
      exact ⟨rfl, HH.out, Keep.refl _ _⟩
  · have H0 : Hid (OwnsA w base (.slice (some ⟨g, 0, none⟩) (rv1 l 0).length cap) (rv1 l 0)) := by rw [rv1_zero]; exact h
    have HE := hid (rv1_end l)
    have HSc := hid (rv1_succ l)
    have HLn := hid (rv1_len l)
    generalize hn : l.length = n at *
    have HN := hid hn
    clear h ht hs hm hc hg hn
    go_enter Try.func103, Try.ntmps103
    go_wp2_with fail
    go_loopw [2, 3] (fun i j wr => ∃ q : Nat, i = .int .i64 q ∧ j = .int .i64 ((n : Int) - 1 - q) ∧ 2 * q ≤ n + 1 ∧ Hid (OwnsA wr base (.slice (some ⟨g, 0, none⟩) (rv1 l q).length cap) (rv1 l q)) ∧ Hid (Keep (· = g) w wr)) (fun i _ _ => n - (intOf i).toNat)
    case atStart => exact ⟨0, rfl, by go_num, by omega, H0, Keep.refl _ _⟩
    case round =>
      obtain ⟨q, rfl, rfl, hq, HO, HK⟩ := hrel
      clear H0
      by_cases hlt : q < n - 1 - q
      · obtain ⟨j, hj⟩ : ∃ j : Nat, j = n - 1 - q := ⟨_, rfl⟩
        have hjn : (n : Int) - 1 - (q : Int) = (j : Int) := by omega
        have L1 : (q : Int) < (j : Int) := by omega
        have hjl : j < n := by omega
        obtain ⟨A, c', hv, _, hA⟩ := HO.out.slice
        cases hv
        obtain ⟨b', off', hb', hlt', hcell⟩ := hA (by rw [HLn.out]; omega)
        cases hb'
        have hfr : ∀ o, wr.frozen? ⟨g, o, none⟩ = false := fun o => by
          rcases HO.out.2 with ⟨hv, _⟩ | ⟨g', cap', cur', hv, _, hg', _⟩
          · cases hv
          · cases hv
            unfold World.frozen?
            rw [hg']
            simp
        have c1 := (hcell q (by rw [HLn.out]; omega)).1
        have c2 := (hcell q (by rw [HLn.out]; omega)).2
        have c3 := (hcell j (by rw [HLn.out]; omega)).1
        have c4 := (hcell j (by rw [HLn.out]; omega)).2
        have f1 := hfr (q * 2)
        have f2 := hfr (q * 2 + 1)
        have f3 := hfr (j * 2)
        have f4 := hfr (j * 2 + 1)
        have HS := hid (HSc.out q (by omega))
        rw [← hj] at HS
        have HO2 := hid (OwnsA.set (OwnsA.set HO.out (i := q) (by rw [HLn.out]; omega) ((rv1 l q).getD j (0, 0))) (i := j) (by rw [List.length_set, HLn.out]; omega) ((rv1 l q).getD q (0, 0)))
        rw [← HS.out] at HO2
        generalize (rv1 l q).getD q (0, 0) = x at *
        generalize (rv1 l q).getD j (0, 0) = y at *
        clear hcell hfr hA
        have HJ := hid hj
        have L2 : (j : Int) - 1 = (n : Int) - 1 - ((q + 1 : Nat) : Int) := by omega
        have HL2 := hid L2
        have L3 : q < n := by omega
        rw [hjn]
        clear hj hjn L2
        simp only [Nat.zero_add] at c1 c2 c3 c4
        go_wp2_with fail
        go_region
        go_wp2
        go_roundw
        case rel =>
          refine ⟨q + 1, by go_num, ?_, by omega, ?_, ?_⟩
          · rw [← HL2.out]
          · have hk : KW (setA (setA wr g q y) g j x) (setA (setA wr.drew g q y) g j x) := ⟨rfl, rfl, rfl, by simp [setA], fun _ _ => rfl⟩
            exact HO2.out.kw hk
          · exact (HK.out.drew.t (setA_keep _ g q y)).t (setA_keep _ g j x)
        case measure => simp [intOf]; omega
      · obtain ⟨j, hj⟩ : ∃ j : Nat, j = n - 1 - q := ⟨_, rfl⟩
        have L1 : decide ((q : Int) < (n : Int) - 1 - q) = false := decide_eq_false (by omega)
        have HE2 := hid (HE.out q (by omega))
        go_wp2_with fail
        go_end0
        refine ⟨rfl, ?_, HK.out.mono fun i _ hi => by cases hi; rfl⟩
        have := HO.out
        rw [HE2.out, List.length_reverse, HN.out] at this
        exact this
end Go.Proofs.Ytgadkelldbibgaa

/- best.path: the actions to a machine. -/
namespace Go.Proofs.Ytgadkelldbibgaa
open Go.ChangeShapes Go.WideShapes Go.ChangeAt Go.RowKit
set_option linter.unusedVariables false

def fcs (f : Fd) : Nat → Value
  | 0 => .pointer (some ⟨f.mb, 0, none⟩)
  | 1 => .int .i64 f.tot
  | 2 => .int .i64 f.kind
  | 3 => .int .i64 f.n
  | 4 => .int .i64 f.from_.at_
  | 5 => .int .i64 f.from_.pend
  | 6 => .int .i64 f.from_.x
  | 7 => .int .i64 f.from_.y
  | 8 => .int .i64 f.from_.z
  | _ => .bool f.first
theorem fcs_one (f : Fd) : ∀ i, i < 10 → (fcs f i).oneCell' = true := fun i hi => by
  match i, hi with
  | 0, _ => rfl
  | 1, _ => rfl
  | 2, _ => rfl
  | 3, _ => rfl
  | 4, _ => rfl
  | 5, _ => rfl
  | 6, _ => rfl
  | 7, _ => rfl
  | 8, _ => rfl
  | 9, _ => rfl
theorem fcs_new (w : World) (f : Fd) : (w.alloc (.cells #[.pointer (some ⟨f.mb, 0, none⟩), .int .i64 f.tot, .int .i64 f.kind, .int .i64 f.n, .int .i64 f.from_.at_, .int .i64 f.from_.pend, .int .i64 f.from_.x, .int .i64 f.from_.y, .int .i64 f.from_.z, .bool f.first] 104)).rowIs w.heap.size 104 10 (fcs f) :=
  World.rowIs_alloc w _ _ (fcs f) fun i hi => by
    match i, hi with
    | 0, _ => rfl
    | 1, _ => rfl
    | 2, _ => rfl
    | 3, _ => rfl
    | 4, _ => rfl
    | 5, _ => rfl
    | 6, _ => rfl
    | 7, _ => rfl
    | 8, _ => rfl
    | 9, _ => rfl

def kobj (k : Ky) : Obj := .cells #[.int .i64 k.at_, .int .i64 k.pend, .int .i64 k.x, .int .i64 k.y, .int .i64 k.z] 101
theorem kobj_row (w : World) (k : Ky) : (w.alloc (kobj k)).rowIs w.heap.size 101 5 (kcs k.at_ k.pend k.x k.y k.z) :=
  World.rowIs_alloc w _ _ (kcs k.at_ k.pend k.x k.y k.z) fun i hi => by
    match i, hi with
    | 0, _ => rfl
    | 1, _ => rfl
    | 2, _ => rfl
    | 3, _ => rfl
    | 4, _ => rfl

theorem fcs_cells {w : World} {b : Nat} {t : TypeId} {f : Fd} (h : w.rowIs b t 10 (fcs f)) : w.cell? ⟨b, 0, none⟩ = some (.pointer (some ⟨f.mb, 0, none⟩)) ∧ w.cell? ⟨b, 1, none⟩ = some (.int .i64 f.tot) ∧ w.cell? ⟨b, 2, none⟩ = some (.int .i64 f.kind) ∧ w.cell? ⟨b, 3, none⟩ = some (.int .i64 f.n) ∧
    w.cell? ⟨b, 4, none⟩ = some (.int .i64 f.from_.at_) ∧ w.cell? ⟨b, 5, none⟩ = some (.int .i64 f.from_.pend) ∧ w.cell? ⟨b, 6, none⟩ = some (.int .i64 f.from_.x) ∧ w.cell? ⟨b, 7, none⟩ = some (.int .i64 f.from_.y) ∧ w.cell? ⟨b, 8, none⟩ = some (.int .i64 f.from_.z) ∧ w.cell? ⟨b, 9, none⟩ = some (.bool f.first) ∧ b < w.heap.size :=
  ⟨h.cell (i := 0) (by omega), h.cell (i := 1) (by omega), h.cell (i := 2) (by omega), h.cell (i := 3) (by omega), h.cell (i := 4) (by omega), h.cell (i := 5) (by omega), h.cell (i := 6) (by omega), h.cell (i := 7) (by omega), h.cell (i := 8) (by omega), h.cell (i := 9) (by omega), h.lt⟩
def fobj (f : Fd) : Obj := .cells #[.pointer (some ⟨f.mb, 0, none⟩), .int .i64 f.tot, .int .i64 f.kind, .int .i64 f.n, .int .i64 f.from_.at_, .int .i64 f.from_.pend, .int .i64 f.from_.x, .int .i64 f.from_.y, .int .i64 f.from_.z, .bool f.first] 104

/-- what path sees of the map -/
def Leads (gd : Ky → Option Fd) (g : Sx.G) : Prop := ∀ k f, g k = some f → k.small ∧ ∃ fd, gd k = some fd ∧ fd.kind = f.kind ∧ fd.n = f.n ∧ fd.from_ = f.from_ ∧ fd.first = f.first

theorem Way.some {g : Sx.G} {k : Ky} {la : List Mc.Act} (h : Sx.Way g k la) : ∃ f, g k = some f := by
  cases h with
  | first h _ => exact ⟨_, h⟩
  | step h _ _ => exact ⟨_, h⟩
/-- a way, at its last place -/
theorem Leads.at_ {gd : Ky → Option Fd} {g : Sx.G} (h : Leads gd g) {k : Ky} {la : List Mc.Act} (hW : Sx.Way g k la) :
    ∃ fd, gd k = some fd ∧ k.small ∧ ((fd.first = true ∧ la = []) ∨ (fd.first = false ∧ ∃ lb, la = lb ++ [(fd.kind, fd.n)] ∧ Sx.Way g fd.from_ lb)) := by
  cases hW with
  | first h1 h2 =>
    obtain ⟨hs, fd, e1, e2, e3, e4, e5⟩ := h _ _ h1
    exact ⟨fd, e1, hs, .inl ⟨by rw [e5]; exact h2, rfl⟩⟩
  | step h1 h2 h3 =>
    obtain ⟨hs, fd, e1, e2, e3, e4, e5⟩ := h _ _ h1
    refine ⟨fd, e1, hs, .inr ⟨by rw [e5]; exact h2, _, by rw [e2, e3], by rw [e4]; exact h3⟩⟩

set_option maxRecDepth 100000 in
set_option maxHeartbeats 1000000 in
theorem path_any (w : World) (mb : Nat) (gd : Ky → Option Fd) (g : Sx.G) (k : Ky) (la : List Mc.Act) (hK : Known w mb gd) (hL : Leads gd g) (hW : Sx.Way g k la) (hl : la.length ≤ 100000) :
    Calls Try.prog 63 #[.map (some mb), .agg #[.int .i64 k.at_, .int .i64 k.pend, .int .i64 k.x, .int .i64 k.y, .int .i64 k.z]] w fun e w' => ∃ v, e = .returned v ∧ OwnsA w' w.heap.size v la ∧ KW w w' := by
  obtain ⟨fd, e1, hs, hx⟩ := hL.at_ hW
  have HK0 := hid hK
  have HLe := hid hL
  have HS := hid hs
  have HW := hid hW
  have HE := hid e1
  have HLo : Hid ((if false = true then (.tuple #[fdo (gd k), .bool (gd k).isSome] : Value) else fdo (gd k)) = fdv fd) := by
    show _ = _
    rw [if_neg (by decide), HE.out]
    rfl
  clear hK hL hs hW hx e1
  go_enter Try.func63, Try.ntmps63
  go_wp2_with (at_lookup; refine wpList_look _ rfl _ _ false rfl mb gd rfl (HK0.out.keep (((KW.refl w).alloc _).keep (own := fun _ => False)) id) k rfl HS.out _ HLo.out ?_; unfold fdv)
  have H1 := hid (fcs_new (w.alloc (kobj k)) fd)
  have HK1 := hid (((KW.refl w).alloc (kobj k)).alloc (.cells #[.pointer (some ⟨fd.mb, 0, none⟩), .int .i64 fd.tot, .int .i64 fd.kind, .int .i64 fd.n, .int .i64 fd.from_.at_, .int .i64 fd.from_.pend, .int .i64 fd.from_.x, .int .i64 fd.from_.y, .int .i64 fd.from_.z, .bool fd.first] 104))
  rw [show (w.alloc (kobj k)).heap.size = w.heap.size + 1 by simp] at H1
  unfold kobj at H1 HK1
  clear HLo HS
  go_loopg [5, 6] la.length (fun gk vo p wr => ∃ (k' : Ky) (fd : Fd) (lc dn : List Mc.Act) (fb : Nat), p = .pointer (some ⟨fb, 0, none⟩) ∧ lc.length = gk ∧ Hid (gd k' = some fd) ∧ Hid (Sx.Way g k' lc) ∧ Hid (la = lc ++ dn.reverse) ∧ Hid (OwnsA wr w.heap.size vo dn) ∧ Hid (wr.rowIs fb 104 10 (fcs fd)) ∧ Hid (KW w wr))
  case atStart => exact ⟨k, fd, la, [], w.heap.size + 1, rfl, rfl, HE, HW, by show _ = _; simp, OwnsA.nil _ _, H1, HK1⟩
  case round =>
    clear H1 HK1 HE HW
    obtain ⟨k1, f1, lc, dn, fb, rfl, rfl, HE, HW, HLa, HO, HR, HK⟩ := hrel
    obtain ⟨f1', e1, _, hx⟩ := HLe.out.at_ HW.out
    rw [HE.out] at e1
    cases e1
    have c0 := HR.out.cell (i := 0) (by omega)
    have c1 := HR.out.cell (i := 1) (by omega)
    have c2 := HR.out.cell (i := 2) (by omega)
    have c3 := HR.out.cell (i := 3) (by omega)
    have c4 := HR.out.cell (i := 4) (by omega)
    have c5 := HR.out.cell (i := 5) (by omega)
    have c6 := HR.out.cell (i := 6) (by omega)
    have c7 := HR.out.cell (i := 7) (by omega)
    have c8 := HR.out.cell (i := 8) (by omega)
    have c9 := HR.out.cell (i := 9) (by omega)
    have hfb := HR.out.lt
    simp only [fcs] at c0 c1 c2 c3 c4 c5 c6 c7 c8 c9
    rcases hx with ⟨hf, hlc⟩ | ⟨hf, lb, hlc, hwb⟩
    · rw [hf] at c9
      have HLd : Hid (la = dn.reverse) := by show _ = _; rw [HLa.out, hlc]; rfl
      have HRv := hid (fun W (h : OwnsA W w.heap.size u5 dn) => reverse_acts W w.heap.size u5 dn h (by have := congrArg List.length HLd.out; simp at this; omega))
      have HOl := hid (fun i => HO.out.lt (b := i))
      clear hlc hf
      go_wp2_with fail
      refine (HRv.out _ HO.out).mono ?_
      rintro e w5 ⟨rfl, ho5, hk5⟩
      have HO5 := hid ho5
      have HK5 : Hid (KW w w5) := HK.out.kept hk5 fun i hi => (HOl.out i hi).1
      clear ho5 hk5
      go_wp2_with fail
      go_ret
      exact ⟨_, rfl, by rw [HLd.out]; exact HO5.out, HK5.out⟩
    · rw [hf] at c9
      obtain ⟨f2, e2, hs2, _⟩ := HLe.out.at_ hwb
      have HE2 := hid e2
      have HS2 := hid hs2
      have HW2 := hid hwb
      have HLen : Hid (lb.length < lc.length) := by show _ < _; rw [hlc]; simp
      have HLd : Hid (la = lb ++ (dn ++ [(f1.kind, f1.n)]).reverse) := by show _ = _; rw [HLa.out, hlc]; simp
      have HDn : Hid (dn.length + 1 ≤ la.length) := by show _ ≤ _; rw [HLd.out]; simp
      have HF := hid hf
      have HLo : Hid ((if false = true then (.tuple #[fdo (gd f1.from_), .bool (gd f1.from_).isSome] : Value) else fdo (gd f1.from_)) = fdv f2) := by
        show _ = _
        rw [if_neg (by decide), HE2.out]
        rfl
      have HX : Hid (Holds (wr.alloc (.cells #[.int .i64 f1.kind, .int .i64 f1.n] 27)) (.slice (some ⟨wr.heap.size, 0, none⟩) 1 1) 1 2 [.int .i64 f1.kind, .int .i64 f1.n]) := Holds.new (w := wr) (t := 27) (k := 1) (size := 2) (c := 1) (ys := [.int .i64 f1.kind, .int .i64 f1.n]) rfl rfl
      obtain ⟨Ao, co, hvo, _, _⟩ := HO.out.slice
      subst hvo
      have HOn : Hid (∀ i, (Value.slice Ao dn.length co).ownBlock = some i → ¬ i = fb) := fun i hi h => by
        subst h
        obtain ⟨c, hb, _⟩ := HR.out
        rcases HO.out.2 with ⟨hv, _⟩ | ⟨g', cap', cur', hv, _, hg', _⟩
        · simp only [Value.slice.injEq] at hv
          obtain ⟨rfl, _, _⟩ := hv
          cases hi
        · simp only [Value.slice.injEq] at hv
          obtain ⟨rfl, _, _⟩ := hv
          cases hi
          rw [hb] at hg'
          injection hg' with hg'
          injection hg' with _ ht
          exact absurd ht (by decide)
      have HO5 := hid (HO.out.kw ((KW.refl wr).alloc (.cells #[.int .i64 f1.kind, .int .i64 f1.n] 27)))
      have HQ1 : Hid ((dn.length + 1) * 16 ≤ 140737488355328) := by have := HDn.out; exact hid (by omega)
      have HQ2 : Hid (dn.length + 1 ≤ 9223372036854775807) := by have := HDn.out; exact hid (by omega)
      have HQ3 : Hid (w.heap.size ≤ (wr.alloc (.cells #[.int .i64 f1.kind, .int .i64 f1.n] 27)).heap.size) := by have := HK.out.size; exact hid (by simp; omega)
      have HRow := hid (fun W (h : KW wr W) => KW.row h hfb HR.out)
      clear hlc hf e2 hs2 hwb
      go_wp2_with (first
        | (at_builtin; refine wpList_appA rfl sliceAct rfl (W := wr.alloc (.cells #[.int .i64 f1.kind, .int .i64 f1.n] 27)) (base := w.heap.size) (k := 1) (n := dn.length) (v := .slice Ao dn.length co) (u := .slice (some ⟨wr.heap.size, 0, none⟩) 1 1) (xs := acl dn) (ys := [.int .i64 f1.kind, .int .i64 f1.n]) rfl rfl HX.out HO5.out HQ3.out HQ1.out HQ2.out ?_; intro v5 w5 hown5 hkeep5 hv5; have hr5 := hkeep5.row (fun h => HOn.out _ h rfl) (HRow.out _ ((KW.refl wr).alloc _)); obtain ⟨q0, q1, q2, q3, q4, q5, q6, q7, q8, q9, l5⟩ := fcs_cells hr5; have HKN := hid (HK0.out.keep ((HK.out.alloc (.cells #[.int .i64 f1.kind, .int .i64 f1.n] 27)).kept hkeep5 (fun i hi => (HO5.out.lt hi).1) |>.keep (own := fun _ => False)) id); clear hr5)
        | (at_lookup; refine wpList_look _ rfl _ _ false rfl mb gd rfl (HKN.out.keep (((KW.refl w5).alloc _).keep (own := fun _ => False)) id) f1.from_ rfl HS2.out _ HLo.out ?_; unfold fdv))
      have HO6 : Hid (OwnsA w5 w.heap.size v5 (dn ++ [(f1.kind, f1.n)])) := OwnsA.app (l' := [(f1.kind, f1.n)]) hown5
      have HK5 : Hid (KW w w5) := (HK.out.alloc (.cells #[.int .i64 f1.kind, .int .i64 f1.n] 27)).kept hkeep5 fun i hi => (HO5.out.lt hi).1
      go_roundg lb.length
      case measure => exact HLen.out
      case rel =>
        exact ⟨f1.from_, f2, lb, dn ++ [(f1.kind, f1.n)], w5.heap.size, rfl, rfl, HE2, HW2, HLd, HO6.out.kw ((KW.refl w5).alloc _), fcs_new w5 f2, HK5.out.alloc _⟩

end Go.Proofs.Ytgadkelldbibgaa

/- best.Search: what its memory is from round to round. -/
namespace Go.Proofs.Ytgadkelldbibgaa
open Go.ChangeShapes Go.WideShapes Go.ChangeAt Go.RowKit
set_option linter.unusedVariables false

theorem row_val {w : World} {b n : Nat} {t t' : TypeId} {f f' : Nat → Value} (h : w.rowIs b t (n + 1) f) (h' : w.rowIs b t' (n + 1) f') : f 0 = f' 0 := by
  have h1 := h.cell (i := 0) (by omega)
  have h2 := h'.cell (i := 0) (by omega)
  rw [h1] at h2
  injection h2

/-- what may be turned of the memory -/
theorem Mem.turn {w w' : World} {b : Bx} {T T' : Int} {near far near' far' : List Ky} {g : Sx.G} {q0 q : Option Ky} (h : Mem w b T near far g q0) (hK : Keep (fun i => i = b.bt ∨ i = b.bn ∨ i = b.bf) w w') (ht : w'.rowIs b.bt 3 1 (fun _ => .int .i64 T')) {vn vf : Value}
    (r1 : w'.rowIs b.bn 106 1 (fun _ => vn)) (r2 : w'.rowIs b.bf 106 1 (fun _ => vf)) (o1 : OwnsK w b.base vn near') (o2 : OwnsK w b.base vf far') (hd : ∀ i, vn.ownBlock = some i → vf.ownBlock ≠ some i)
    (hq : ∀ k, q = some k → w'.rowIs b.bq 101 5 (kcs k.at_ k.pend k.x k.y k.z) ∧ vn.ownBlock ≠ some b.bq ∧ vf.ownBlock ≠ some b.bq) : Mem w' b T' near' far' g q := by
  obtain ⟨h1, h2, ⟨un, uf, n1, n2, _⟩, h4, h40, gd, h5, h6⟩ := h
  have hno : ∀ {v : Value} {l : List Ky}, OwnsK w b.base v l → ∀ i, v.ownBlock = some i → ¬ (i = b.bt ∨ i = b.bn ∨ i = b.bf) := fun ho i hi h => by
    rcases h with rfl | rfl | rfl
    · exact ho.ne h1 ne_int_key hi
    · exact ho.ne n1 ne_keys hi
    · exact ho.ne n2 ne_keys hi
  refine ⟨ht, hK.row ?_ h2, ⟨vn, vf, r1, r2, o1.keep hK (hno o1), o2.keep hK (hno o2), hd, hq⟩, h4, Nat.le_trans h40 hK.size, gd, h5.keep hK ?_, fun k => ?_⟩
  · rintro (e | e | e)
    · exact row_ne h2 h1 (by decide) e
    · exact row_ne h2 n1 ne_map_keys e
    · exact row_ne h2 n2 ne_map_keys e
  · rintro (e | e | e)
    · exact row_ne_map h1 h5 e.symm
    · exact row_ne_map n1 h5 e.symm
    · exact row_ne_map n2 h5 e.symm
  · rcases h6 k with h | ⟨fd, f, v, e1, e2, e3, e4, e5, e6, e7, e8, e9⟩
    · exact .inl h
    · refine .inr ⟨fd, f, v, e1, e2, e3, e4, e5, e6, e7, e8.keep hK fun i hi ho => e9 i hi ?_, e9⟩
      rcases ho with rfl | rfl | rfl
      · exact .inl rfl
      · exact .inr (.inr (.inl rfl))
      · exact .inr (.inr (.inr (.inl rfl)))

theorem Mem.setq {w : World} {b : Bx} {T : Int} {near far : List Ky} {g : Sx.G} {q : Option Ky} (h : Mem w b T near far g q) (x : Nat) : Mem w { b with bq := x } T near far g none := by
  obtain ⟨h1, h2, ⟨vn, vf, n1, n2, n3, n4, n5, _⟩, h4, h40, gd, h5, h6⟩ := h
  exact ⟨h1, h2, ⟨vn, vf, n1, n2, n3, n4, n5, fun k hk => (by cases hk)⟩, h4, h40, gd, h5, h6⟩

/-- THE LAST ONE OF NEAR IS TAKEN -/
theorem Mem.pop {w : World} {b : Bx} {T : Int} {near far : List Ky} {g : Sx.G} {k : Ky} (h : Mem w b T (near ++ [k]) far g none) :
    ∃ gb cap, w.rowIs b.bn 106 1 (fun _ => .slice (some ⟨gb, 0, none⟩) (near.length + 1) cap) ∧ gb < w.heap.size ∧ near.length + 1 ≤ cap ∧ (∀ i, i < 5 → w.cell? ⟨gb, near.length * 5 + i, none⟩ = (kcl1 k)[i]?) ∧
      Mem ((w.alloc (kobj k)).setCell ⟨b.bn, 0, none⟩ (.slice (some ⟨gb, 0, none⟩) near.length cap)) { b with bq := w.heap.size } T near far g (some k) := by
  have h0 := h
  obtain ⟨h1, h2, ⟨vn, vf, n1, n2, n3, n4, n5, _⟩, h4, h40, gd, h5, h6⟩ := h
  obtain ⟨gb, cap, rfl, hb, hlt, hc, hcell, ho⟩ := n3.last
  refine ⟨gb, cap, n1, hlt, hc, hcell, ?_⟩
  have hk : KW w (w.alloc (kobj k)) := (KW.refl w).alloc _
  have hM := ((h0.kw hk).setq w.heap.size)
  have n1' := KW.row hk n1.lt n1
  have n2' := KW.row hk n2.lt n2
  have hr := kobj_row w k
  have hset := Keep.setCell (own := (· = b.bn)) (Keep.refl _ (w.alloc (kobj k))) ⟨b.bn, 0, none⟩ (.slice (some ⟨gb, 0, none⟩) near.length cap) rfl
  have hb1 : b.bn < w.heap.size := n1.lt
  refine hM.turn (vn := .slice (some ⟨gb, 0, none⟩) near.length cap) (vf := vf) (hset.mono fun i _ hi => .inr (.inl hi)) (hset.row (row_ne hM.tot n1' ne_int_keys) hM.tot) ((n1'.set 0 _).congr fun i hi => by rw [if_pos (by omega)]) (hset.row (fun e => h4 e.symm) n2') (ho.kw hk) (n4.kw hk) (fun i hi => n5 i hi) fun k' hk' => ?_
  cases hk'
  refine ⟨hset.row (by show ¬ w.heap.size = b.bn; omega) hr, ?_, fun e => ?_⟩
  · intro e
    have e2 : gb = w.heap.size := by injection e
    omega
  · have := (n4.lt e).2
    have e2 : ({ b with bq := w.heap.size } : Bx).bq = w.heap.size := rfl
    omega

/-- BY ONE MORE -/
theorem Mem.more {w : World} {b : Bx} {T : Int} {far : List Ky} {g : Sx.G} (h : Mem w b T [] far g none) :
    ∃ vf, w.rowIs b.bf 106 1 (fun _ => vf) ∧ OwnsK w b.base vf far ∧ Mem (((w.setCell ⟨b.bn, 0, none⟩ vf).setCell ⟨b.bf, 0, none⟩ (.slice none 0 0)).setCell ⟨b.bt, 0, none⟩ (.int .i64 (T + 1))) b (T + 1) far [] g none := by
  have h0 := h
  obtain ⟨h1, h2, ⟨vn, vf, n1, n2, n3, n4, n5, _⟩, h4, h40, gd, h5, h6⟩ := h
  refine ⟨vf, n2, n4, ?_⟩
  have k1 := Keep.setCell (own := fun i => i = b.bt ∨ i = b.bn ∨ i = b.bf) (Keep.refl _ w) ⟨b.bn, 0, none⟩ vf (.inr (.inl rfl))
  have k2 := k1.setCell ⟨b.bf, 0, none⟩ (.slice none 0 0) (.inr (.inr rfl))
  have k3 := k2.setCell ⟨b.bt, 0, none⟩ (.int .i64 (T + 1)) (.inl rfl)
  have e1 : b.bt ≠ b.bn := row_ne h1 n1 ne_int_keys
  have e2 : b.bt ≠ b.bf := row_ne h1 n2 ne_int_keys
  refine h0.turn (vn := vf) (vf := .slice none 0 0) k3 (((h1.setOther e1 _).setOther e2 _ |>.set 0 _).congr fun i hi => by rw [if_pos (by omega)]) ?_ ?_ n4 (OwnsK.nil _ _) (fun i _ e => by cases e) (fun k hk => by cases hk)
  · exact (((n1.set 0 vf).congr (g := fun _ => vf) fun i hi => by rw [if_pos (by omega)]).setOther (fun e => h4 e) _).setOther (fun e => e1 e.symm) _
  · exact (((n2.setOther (fun e => h4 e.symm) _).set 0 (.slice none 0 0)).congr (g := fun _ => .slice none 0 0) fun i hi => by rw [if_pos (by omega)]).setOther (fun e => e2 e.symm) _

theorem Mem.leads {w : World} {b : Bx} {T : Int} {near far : List Ky} {g : Sx.G} {q : Option Ky} (h : Mem w b T near far g q) (hs : ∀ k f, g k = some f → k.small) : ∃ gd, Known w b.mb gd ∧ Leads gd g ∧ Fits w b gd g := by
  obtain ⟨h1, h2, _, h4, h40, gd, h5, h6⟩ := h
  refine ⟨gd, h5, fun k f hk => ⟨hs k f hk, ?_⟩, h6⟩
  rcases h6 k with ⟨_, e⟩ | ⟨fd, f', v, e1, e2, e3, e4, e5, e6, e7, e8, e9⟩
  · rw [hk] at e; cases e
  · rw [hk] at e2
    cases e2
    exact ⟨fd, e1, e4, e5, e6, e7⟩
theorem SI.smalls {l s : Nat} {T : Int} {near far : List Ky} {g : Sx.G} {cur : Option Ky} (h : Sx.SI l s T near far g cur) (hl : l ≤ 5) : ∀ k f, g k = some f → k.small := fun k f hk => by
  obtain ⟨g1, g2, _, g4, _⟩ := h.good k f hk
  rw [← g4]
  exact km_small g1 g2 (by omega)

theorem Mem.setT {w : World} {b : Bx} {T : Int} {near far : List Ky} {g : Sx.G} {q : Option Ky} (h : Mem w b T near far g q) (T' : Int) : Mem (w.setCell ⟨b.bt, 0, none⟩ (.int .i64 T')) b T' near far g q := by
  have h0 := h
  obtain ⟨h1, h2, ⟨vn, vf, n1, n2, n3, n4, n5, n6⟩, h4, h40, gd, h5, h6⟩ := h
  have k1 := Keep.setCell (own := fun i => i = b.bt ∨ i = b.bn ∨ i = b.bf) (Keep.refl _ w) ⟨b.bt, 0, none⟩ (.int .i64 T') (.inl rfl)
  have e1 : b.bt ≠ b.bn := row_ne h1 n1 ne_int_keys
  have e2 : b.bt ≠ b.bf := row_ne h1 n2 ne_int_keys
  refine h0.turn (vn := vn) (vf := vf) k1 ((h1.set 0 _).congr fun i hi => by rw [if_pos (by omega)]) (n1.setOther (fun e => e1 e.symm) _) (n2.setOther (fun e => e2 e.symm) _) n3 n4 n5 fun k hk => ?_
  obtain ⟨r1, r2, r3⟩ := n6 k hk
  exact ⟨r1.setOther (row_ne r1 h1 (Ne.symm ne_int_key)) _, r2, r3⟩

/-- THE BEGINNING -/
theorem Mem.start {w4 : World} {bt mbk nb base : Nat} {nv : Value} {m0 : Mc.St} {k0 : Ky} (hr : w4.rowIs bt 3 1 (fun _ => .int .i64 0)) (hK : Known w4 mbk (putF (fun _ => none) k0 ⟨nb, 0, 0, 0, ⟨0, 0, 0, 0, 0⟩, true⟩)) (hm : Mach w4 nb nv m0) (hn : ∀ i, mo nb nv i → i ≠ bt ∧ i ≠ mbk) (hb : base ≤ w4.heap.size) (htot : m0.tot = 0) :
    Mem ((((w4.alloc (.cells #[.map (some mbk)] 105)).alloc (kobj k0)).alloc (.cells #[.slice (some ⟨w4.heap.size + 1, 0, none⟩) 1 1] 106)).alloc (.cells #[.slice none 0 0] 106))
      ⟨bt, w4.heap.size, 0, w4.heap.size + 1 + 1, w4.heap.size + 1 + 1 + 1, mbk, base⟩ 0 [k0] [] (Sx.put (fun _ => none) k0 ⟨m0, 0, 0, ⟨0, 0, 0, 0, 0⟩, true⟩) none := by
  generalize hW1 : w4.alloc (.cells #[.map (some mbk)] 105) = W1
  have s1 : W1.heap.size = w4.heap.size + 1 := by rw [← hW1]; simp
  have k1 : KW w4 W1 := by rw [← hW1]; exact (KW.refl w4).alloc _
  have r1 : W1.rowIs w4.heap.size 105 1 (fun _ => .map (some mbk)) := by
    rw [← hW1]
    exact World.rowIs_alloc w4 _ _ _ fun i hi => by match i, hi with | 0, _ => rfl
  generalize hW2 : W1.alloc (kobj k0) = W2
  have s2 : W2.heap.size = w4.heap.size + 1 + 1 := by rw [← hW2]; simp [s1]
  have k2 : KW W1 W2 := by rw [← hW2]; exact (KW.refl W1).alloc _
  have b2 : W2.heap[w4.heap.size + 1]? = some (kobj k0) := by
    rw [← hW2, ← s1]
    exact heap_alloc_new W1 _
  generalize hW3 : W2.alloc (.cells #[.slice (some ⟨w4.heap.size + 1, 0, none⟩) 1 1] 106) = W3
  have s3 : W3.heap.size = w4.heap.size + 1 + 1 + 1 := by rw [← hW3]; simp [s2]
  have k3 : KW W2 W3 := by rw [← hW3]; exact (KW.refl W2).alloc _
  have r3 : W3.rowIs (w4.heap.size + 1 + 1) 106 1 (fun _ => .slice (some ⟨w4.heap.size + 1, 0, none⟩) 1 1) := by
    rw [← hW3, ← s2]
    exact World.rowIs_alloc W2 _ _ _ fun i hi => by match i, hi with | 0, _ => rfl
  have k4 : KW W3 (W3.alloc (.cells #[.slice none 0 0] 106)) := (KW.refl W3).alloc _
  have r4 : (W3.alloc (.cells #[.slice none 0 0] 106)).rowIs (w4.heap.size + 1 + 1 + 1) 106 1 (fun _ => .slice none 0 0) := by
    rw [← s3]
    exact World.rowIs_alloc W3 _ _ _ fun i hi => by match i, hi with | 0, _ => rfl
  have k14 := (k2.t k3).t k4
  have k04 := k1.t k14
  have r3' := KW.row k4 (by omega) r3
  have hb4 : (W3.alloc (.cells #[.slice none 0 0] 106)).heap[w4.heap.size + 1]? = some (kobj k0) := (Below.block (k3.t k4) _ (by omega)).trans b2
  refine ⟨KW.row k04 hr.lt hr, KW.row k14 (show w4.heap.size < W1.heap.size by omega) r1, ⟨_, _, r3', r4, ⟨rfl, .inr ⟨w4.heap.size + 1, 1, _, rfl, Nat.le_trans hb (Nat.le_succ _), hb4, Nat.le_refl _, by decide, rfl, rfl⟩⟩, OwnsK.nil _ _, fun i _ e => (by cases e), fun k hk => (by cases hk)⟩, by show w4.heap.size + 1 + 1 ≠ w4.heap.size + 1 + 1 + 1; omega, Nat.le_trans hb k04.size, _, hK.keep (k04.keep (own := fun _ => False)) id, fun k => ?_⟩
  by_cases hk : k = k0
  · subst hk
    refine .inr ⟨⟨nb, 0, 0, 0, ⟨0, 0, 0, 0, 0⟩, true⟩, ⟨m0, 0, 0, ⟨0, 0, 0, 0, 0⟩, true⟩, nv, by simp [putF], by simp [Sx.put], htot.symm, rfl, rfl, rfl, rfl, hm.kw k04, fun i hi hS => ?_⟩
    have hlt := hm.lt hi
    rcases hS with e | e | e | e | e
    · exact (hn i hi).1 e
    · exact absurd e (by show i ≠ w4.heap.size; omega)
    · exact absurd e (by show i ≠ w4.heap.size + 1 + 1; omega)
    · exact absurd e (by show i ≠ w4.heap.size + 1 + 1 + 1; omega)
    · exact (hn i hi).2 e
  · exact .inl ⟨by simp [putF, hk], by simp [Sx.put, hk]⟩

theorem Known.empty (w : World) : Known (w.alloc (.map #[] 0)) w.heap.size (fun _ => none) :=
  ⟨#[], 0, heap_alloc_new w _, fun e he => by simp at he, fun k f h => by simp at h, by simp [MapKept.stamped_iff]⟩

/-- the state of the search between two of near -/
structure RI (w wr : World) (b : Bx) (l s : Nat) (T : Int) (near far : List Ky) (g : Sx.G) (n : Nat) : Prop where
  mes : Sx.M l T near far g = n
  tm : T + n ≤ 131073
  tm0 : near = [] → T + n + 1 ≤ 131073
  mem : Mem wr b T near far g none
  si : Sx.SI l s T near far g none
  dp : Sx.Deep l T g
  kw : KW w wr
/-- one of near is taken -/
structure RT29 (w W : World) (b : Bx) (q l s : Nat) (T : Int) (near far : List Ky) (g : Sx.G) (n : Nat) (k : Ky) (f : Sx.Fp) (fd : Fd) (gd : Ky → Option Fd) (v : Value) : Prop where
  mem : Mem W { b with bq := q } T near far g (some k)
  kn : Known W b.mb gd
  le : Leads gd g
  gk : gd k = some fd
  gf : g k = some f
  tot : fd.tot = f.m.tot
  mach : Mach W fd.mb v f.m
  ap : ∀ i, mo fd.mb v i → ¬ b.S i
  sm : k.small
  kw : KW w W
  si : Sx.SI l s T near far g (some k)
  dp : Sx.Deep l T g
  mes : Sx.M l T near far g + 1 = n
  tm : T + n ≤ 131073

theorem RI.pop {w wr : World} {b : Bx} {l s : Nat} {T : Int} {near far : List Ky} {g : Sx.G} {n : Nat} {k : Ky} (h : RI w wr b l s T (near ++ [k]) far g n) (hl : l ≤ 5) (hbn : w.heap.size ≤ b.bn) :
    ∃ gb cap, wr.rowIs b.bn 106 1 (fun _ => .slice (some ⟨gb, 0, none⟩) (near.length + 1) cap) ∧ gb < wr.heap.size ∧ near.length + 1 ≤ cap ∧ (∀ i, i < 5 → wr.cell? ⟨gb, near.length * 5 + i, none⟩ = (kcl1 k)[i]?) ∧
      ∃ f fd gd v, RT29 w ((wr.alloc (kobj k)).setCell ⟨b.bn, 0, none⟩ (.slice (some ⟨gb, 0, none⟩) near.length cap)) b wr.heap.size l s T near far g n k f fd gd v := by
  obtain ⟨gb, cap, h1, h2, h3, h4, h5⟩ := h.mem.pop
  refine ⟨gb, cap, h1, h2, h3, h4, ?_⟩
  have hsi := h.si.take
  obtain ⟨f, hf⟩ := h.si.nk k (by simp)
  obtain ⟨gd, k1, k2, k3⟩ := h5.leads (SI.smalls hsi hl)
  have hM := h.mes
  unfold Sx.M at hM
  simp only [List.length_append, List.length_singleton] at hM
  rcases k3 k with ⟨_, e⟩ | ⟨fd, f', v, e1, e2, e3, e4, e5, e6, e7, e8, e9⟩
  · rw [hf] at e; cases e
  · rw [hf] at e2
    cases e2
    refine ⟨f, fd, gd, v, h5, k1, k2, e1, hf, e3, e8, e9, SI.smalls hsi hl k f hf, ?_, hsi, h.dp, by unfold Sx.M; omega, h.tm⟩
    have hk : Keep (fun i => i = b.bn) w ((wr.alloc (kobj k)).setCell ⟨b.bn, 0, none⟩ (.slice (some ⟨gb, 0, none⟩) near.length cap)) := ((h.kw.alloc _).keep (own := fun i => i = b.bn)).setCell ⟨b.bn, 0, none⟩ _ rfl
    exact (KW.refl w).kept hk fun i hi => by omega

theorem RT29.kw' {w W W' : World} {b : Bx} {q l s : Nat} {T : Int} {near far : List Ky} {g : Sx.G} {n : Nat} {k : Ky} {f : Sx.Fp} {fd : Fd} {gd : Ky → Option Fd} {v : Value} (h : RT29 w W b q l s T near far g n k f fd gd v) (hk : KW W W') : RT29 w W' b q l s T near far g n k f fd gd v :=
  ⟨h.mem.kw hk, h.kn.keep (hk.keep (own := fun _ => False)) id, h.le, h.gk, h.gf, h.tot, h.mach.kw hk, h.ap, h.sm, h.kw.t hk, h.si, h.dp, h.mes, h.tm⟩
theorem RT29.skip {w W : World} {b : Bx} {q l s : Nat} {T : Int} {near far : List Ky} {g : Sx.G} {n : Nat} {k : Ky} {f : Sx.Fp} {fd : Fd} {gd : Ky → Option Fd} {v : Value} (h : RT29 w W b q l s T near far g n k f fd gd v) (hT : fd.tot ≠ T) : ∃ n', n' < n ∧ RI w W b l s T near far g n' := by
  have h1 := h.mes
  have h2 := h.tm
  exact ⟨_, by omega, rfl, by omega, fun _ => by omega, h.mem.setq b.bq, h.si.skip h.gf (by rw [← h.tot]; exact hT), h.dp, h.kw⟩
theorem RT29.sr {w W : World} {b : Bx} {q l s : Nat} {T : Int} {near far : List Ky} {g : Sx.G} {n : Nat} {k : Ky} {f : Sx.Fp} {fd : Fd} {gd : Ky → Option Fd} {v : Value} (h : RT29 w W b q l s T near far g n k f fd gd v) (hT : fd.tot = T) : Sr W { b with bq := q } l s T k f [] (n - 1) :=
  ⟨near, far, g, h.mem, h.si, h.gf, by rw [← h.tot]; exact hT, fun a ha => (by cases ha), by have := h.mes; omega, h.dp⟩
theorem RT29.next {w W W3 : World} {b : Bx} {q l s : Nat} {T : Int} {near far : List Ky} {g : Sx.G} {n : Nat} {k : Ky} {f : Sx.Fp} {fd : Fd} {gd : Ky → Option Fd} {v : Value} (h : RT29 w W b q l s T near far g n k f fd gd v) (hp : f.m.pend ≠ 0)
    (hS : Sr W3 { b with bq := q } l s T k f (Sx.allActs s) (n - 1)) (hk : Keep (({ b with bq := q } : Bx).own W) W W3) (hb : w.heap.size ≤ b.base) (hbS : ∀ i, b.S i → w.heap.size ≤ i) : ∃ near' far' g' n', n' < n ∧ RI w W3 b l s T near' far' g' n' := by
  have h1 := h.mes
  have h2 := h.tm
  obtain ⟨near', far', g', m1, m2⟩ := hS
  have h3 := m2.mes
  refine ⟨near', far', g', _, ?_, rfl, by omega, fun _ => by omega, m1.setq b.bq, m2.done hp, m2.dp, h.kw.kept hk fun i hi => ?_⟩
  · omega
  · rcases hi with hi | hi
    · exact hbS i hi
    · exact Nat.le_trans hb hi.1

/-- what the machine that is done tells -/
theorem RT29.fin {w W : World} {b : Bx} {q l s : Nat} {T : Int} {near far : List Ky} {g : Sx.G} {n : Nat} {k : Ky} {f : Sx.Fp} {fd : Fd} {gd : Ky → Option Fd} {v : Value} (h : RT29 w W b q l s T near far g n k f fd gd v) (hl : l ≤ 5) (hs : s ≤ 3) (hT : fd.tot = T) (hp : f.m.pend = 0) :
    (1 ≤ s → T = Ch.tt l s) ∧ (s = 0 → l ≤ 1 ∧ T = 0) ∧ ∃ la, Sx.Way g k la ∧ la.length ≤ 65536 ∧ Mc.Does (Mc.new l s) la f.m ∧ f.m.tot = T := by
  have ht : f.m.tot = T := by rw [← h.tot]; exact hT
  obtain ⟨h1, h2⟩ := h.si.tt (by omega) hs h.gf ht hp
  obtain ⟨la, hw, hlen⟩ := h.dp k f h.gf
  exact ⟨h1, h2, la, hw, by omega, h.si.does hw h.gf, ht⟩

/-- near is empty: by one more -/
theorem RI.more {w wr : World} {b : Bx} {l s : Nat} {T : Int} {far : List Ky} {g : Sx.G} {n : Nat} (h : RI w wr b l s T [] far g n) (hf0 : far ≠ []) (hbS : ∀ i, b.S i → w.heap.size ≤ i) :
    ∃ vf, wr.rowIs b.bf 106 1 (fun _ => vf) ∧ OwnsK wr b.base vf far ∧ ∃ n', RI w (((wr.setCell ⟨b.bn, 0, none⟩ vf).setCell ⟨b.bf, 0, none⟩ (.slice none 0 0)).setCell ⟨b.bt, 0, none⟩ (.int .i64 (T + 1))) b l s (T + 1) far [] g n' ∧ T + 1 + n' ≤ 131073 := by
  obtain ⟨vf, h1, h2, h3⟩ := h.mem.more
  refine ⟨vf, h1, h2, Sx.M l (T + 1) far [] g, ?_⟩
  have hm := h.mes
  have ht := h.tm0 rfl
  have hw := Sx.wsum_more l T g
  have hx : T + 1 + (Sx.M l (T + 1) far [] g : Int) ≤ 131073 := by
    unfold Sx.M at hm ⊢
    simp only [List.length_nil] at hm ⊢
    omega
  refine ⟨⟨rfl, hx, fun hf => absurd hf hf0, h3, h.si.more, h.dp.more, ?_⟩, hx⟩
  · have k1 := ((((h.kw.keep (own := b.S)).setCell ⟨b.bn, 0, none⟩ vf (.inr (.inr (.inl rfl)))).setCell ⟨b.bf, 0, none⟩ (.slice none 0 0) (.inr (.inr (.inr (.inl rfl))))).setCell ⟨b.bt, 0, none⟩ (.int .i64 (T + 1)) (.inl rfl))
    exact (KW.refl w).kept k1 hbS

end Go.Proofs.Ytgadkelldbibgaa

/- best.Search. -/
namespace Go.Proofs.Ytgadkelldbibgaa
open Go.ChangeShapes Go.WideShapes Go.ChangeAt Go.RowKit
set_option linter.unusedVariables false

theorem run_loadVar_one {P : Program} (w : World) (a : Addr) (ty : TypeId) (v : Value) (d : TypeDesc) (hc : w.cell? a = some v) (hu : P.underlying ty = some d) (hd : (match d with | .struct _ | .array _ _ => false | _ => true) = true) :
    (loadVar ty a).run P w = .ok v w := by
  have hagg : (isAgg ty).run P w = .ok false w := by
    unfold isAgg
    rw [Sem.run_bind, run_underlying hu w]
    cases d <;> simp_all
  unfold loadVar
  rw [Sem.run_bind, hagg]
  simp [hc]
theorem results_one_tmp2 {P : Program} {fn : Func} {p q r : Tmp} {ty : TypeId} (h : fn.results = #[.cell p ty, .tmp q, .tmp r]) (tmps : Array Value) (w : World) (g2 : Addr) (u : Value) (d2 : TypeDesc)
    (hq : tmps.getD p undef = .pointer (some g2)) (hc : w.cell? g2 = some u) (hu2 : P.underlying ty = some d2) (hd2 : (match d2 with | .struct _ | .array _ _ => false | _ => true) = true) :
    (results fn tmps).run P w = .ok (.tuple #[u, tmps.getD q undef, tmps.getD r undef]) w := by
  have hq' : tmps[p]?.getD undef = .pointer (some g2) := by simpa using hq
  simp [results, h, hq', asAddr, run_loadVar_one w g2 ty u d2 hc hu2 hd2]

/-- what is there, written anew -/
theorem setCell_self {w : World} {g : Nat} {t : TypeId} {v : Value} (h : w.rowIs g t 1 (fun _ => v)) : w.setCell ⟨g, 0, none⟩ v = w := by
  obtain ⟨c, hb, hs, hc⟩ := h
  have h1 := heap_setCell_same w g 0 c t v hb
  have hcc : c.setIfInBounds 0 v = c := by
    apply Array.ext_getElem?
    intro i
    rw [Array.getElem?_setIfInBounds]
    by_cases hi : 0 = i
    · subst hi
      rw [if_pos rfl, if_pos (by omega), hc 0 (by omega)]
    · rw [if_neg hi]
  rw [hcc] at h1
  have hh : (w.setCell ⟨g, 0, none⟩ v).heap = w.heap := by
    apply Array.ext_getElem?
    intro i
    by_cases hi : i = g
    · subst hi
      rw [h1, hb]
    · exact heap_setCell_other w ⟨g, 0, none⟩ i v hi
  have : w.setCell ⟨g, 0, none⟩ v = { w with heap := (w.setCell ⟨g, 0, none⟩ v).heap } := rfl
  rw [this, hh]

/-- what best.Search tells -/
def SearchP (w : World) (l s : Nat) (e : Ending) (w' : World) : Prop :=
  KW w w' ∧ ((∃ (T : Int) (v : Value) (la : List Mc.Act) (m' : Mc.St), e = .returned (.tuple #[.int .i64 T, v, .int .i64 0]) ∧ (1 ≤ s → T = Ch.tt l s) ∧ (s = 0 → l ≤ 1 ∧ T = 0) ∧ OwnsA w' w.heap.size v la ∧ la.length ≤ 65536 ∧ Mc.Does (Mc.new l s) la m' ∧ m'.pend = 0 ∧ m'.tot = T) ∨
    (e = .returned (.tuple #[.int .i64 0, .slice none 0 0, .int .i64 13]) ∧ s = 0 ∧ 2 ≤ l))

set_option maxRecDepth 100000 in
set_option maxHeartbeats 4000000 in
theorem search_yes (l s : Nat) (w : World) (hl : l ≤ 5) (hs : s ≤ 3) : Calls Try.prog 36 #[.int .i64 l, .int .i64 s] w (SearchP w l s) := by
  have d1 : decide ((l : Int) < 0) = false := decide_eq_false (by omega)
  have d2 : decide (5 < (l : Int)) = false := decide_eq_false (by omega)
  have d3 : decide ((s : Int) < 0) = false := decide_eq_false (by omega)
  have d4 : decide (3 < (s : Int)) = false := decide_eq_false (by omega)
  have HN := hid (fun W => new_yes l s W (by omega) (by omega) (by omega))
  have hlen : (Mc.new (l : Int) s).tags.length = s := by simp [Mc.new]
  have HI : Hid (Mc.Inv (Mc.new (l : Int) s)) := Mc.new_inv l s (by omega) (by omega) (by omega)
  have HSm := hid (km_small HI.out rfl (by omega))
  have HSp := hid (fun W b v (h : Mach W b v (Mc.new (l : Int) s)) => spot_any (Mc.new (l : Int) s) b v W h (by omega))
  have HOf := hid (fun W vt base (h : Owns W base 3 vt (ints (Mc.new (l : Int) s).tags)) => of_to (Mc.new (l : Int) s).at_ (Mc.new (l : Int) s).pend vt (Mc.new (l : Int) s).tags base W h (by omega) (Sx.km (Mc.new (l : Int) s)) rfl)
  unfold NewP at HN
  unfold SpotP at HSp
  have H0 := hid (Sx.SI.first l s (by omega) (by omega))
  have HD0 := hid (Sx.Deep.first (l := l) (s := s) (by omega) 0)
  have HW0 := hid (Sx.wsum_le (l := l) (by omega) 0 (Sx.put (fun _ => none) (Sx.km (Mc.new (l : Int) s)) ⟨Mc.new (l : Int) s, 0, 0, ⟨0, 0, 0, 0, 0⟩, true⟩))
  have HLS := hid (And.intro hl hs)
  clear hl hs
  generalize hm0 : Mc.new (l : Int) s = m0 at *
  generalize hk0 : Sx.km m0 = k0 at *
  have HM0 := hid hm0
  have HK0 := hid hk0
  clear hm0 hk0 hlen
  generalize hat : m0.at_ = at0 at HSp HOf
  generalize hpe : m0.pend = pe0 at HSp HOf
  clear hat hpe
  go_enter Try.func36, Try.ntmps36
  go_wp2_with fail
  refine wp_scope_straight ?_
  go_upto_region 5 with (first
    | (go_at_call 22; refine (HN.out _).mono ?_; rintro e w1 ⟨nb, nv, rfl, hm1, hf1, hk1⟩; have HM1 := hid hm1; have HF1 := hid hf1; have HK1 := hid hk1; clear hm1 hf1 hk1)
    | (go_at_call 23; refine (HSp.out _ _ _ HM1.out).mono ?_; rintro e w2 ⟨u, rfl, hu, hk2⟩; have HU2 := hid hu; have HK2 := hid hk2; clear hu hk2)
    | (go_at_call 62; refine (HOf.out _ _ _ HU2.out).mono ?_; rintro e w3 ⟨rfl, hk3⟩; have HK3 := hid hk3; clear hk3))
  have hmm := @run_makeMap Try.prog
  have HKE := hid (Known.empty (w3.alloc (kobj k0)))
  rw [show (w3.alloc (kobj k0)).heap.size = w3.heap.size + 1 by simp] at HKE
  have HRK := hid (KW.row ((KW.refl (w3.alloc (kobj k0))).alloc (.map #[] 0)) (by simp) (kobj_row w3 k0))
  have HK30 : Hid (KW (w.alloc (.cells #[.int .i64 0] 3)) ((w3.alloc (kobj k0)).alloc (.map #[] 0))) := (((HK1.out.t HK2.out).t HK3.out).alloc _).alloc _
  have HRT := hid (KW.row HK30.out (by simp) (World.rowIs_alloc w #[.int .i64 0] 3 (fun _ => .int .i64 0) fun i hi => by match i, hi with | 0, _ => rfl))
  have HNE : Hid (w.heap.size ≠ w3.heap.size + 1) := by have := ((HK1.out.t HK2.out).t HK3.out).size; exact hid (by simp at this; omega)
  unfold kobj at HKE HRK HRT HK30
  go_wp2_with (refine wpList_kput _ rfl _ _ _ (.inr rfl) (w3.heap.size + 1) (fun _ => none) rfl HKE.out k0 rfl HSm.out ⟨nb, 0, 0, 0, ⟨0, 0, 0, 0, 0⟩, true⟩ rfl ?_; intro w4 hkn hkeep hsz; have HKN := hid hkn; have HKP := hid hkeep; have r4 := hkeep.row (Nat.ne_of_lt (Nat.lt_succ_self _)) HRK.out; have t0 : w4.cell? ⟨w3.heap.size, 0, none⟩ = some (.int .i64 k0.at_) := r4.cell (i := 0) (Nat.le_add_left 1 4); have t1 : w4.cell? ⟨w3.heap.size, 1, none⟩ = some (.int .i64 k0.pend) := r4.cell (i := 1) (Nat.le_add_left 2 3); have t2 : w4.cell? ⟨w3.heap.size, 2, none⟩ = some (.int .i64 k0.x) := r4.cell (i := 2) (Nat.le_add_left 3 2); have t3 : w4.cell? ⟨w3.heap.size, 3, none⟩ = some (.int .i64 k0.y) := r4.cell (i := 3) (Nat.le_add_left 4 1); have t4 : w4.cell? ⟨w3.heap.size, 4, none⟩ = some (.int .i64 k0.z) := r4.cell (i := 4) (Nat.le_refl 5); have l4 : w3.heap.size < w4.heap.size := r4.lt; clear r4; have r5 := hkeep.row HNE.out HRT.out; have l5 : w.heap.size < w4.heap.size := r5.lt; have c5 : w4.cell? ⟨w.heap.size, 0, none⟩ = some (.int .i64 0) := r5.cell (i := 0) Nat.zero_lt_one; have f5 := r5.frozen 0; have HR5 := hid r5; clear r5 hkn hkeep hsz)
  have HM4 : Hid (Mach w4 nb nv m0) := by
    refine hid (Mach.keep (own := (· = w3.heap.size + 1)) ((HM1.out.kw (HK2.out.t HK3.out)).kw (((KW.refl w3).alloc (kobj k0)).alloc (.map #[] 0))) HKP.out fun i hi e => ?_)
    have h1 := (HM1.out.kw (HK2.out.t HK3.out)).lt hi
    omega
  have HMS := hid (Mem.start (base := w.heap.size) HR5.out HKN.out HM4.out (fun i hi => by
    have h1 := (HM1.out.kw (HK2.out.t HK3.out)).lt hi
    have h2 := HF1.out i hi
    simp at h2
    exact ⟨by omega, by omega⟩) (by omega) (by rw [← HM0.out]; rfl))
  have HKS : Hid (KW w w4) := ((KW.refl w).alloc (.cells #[.int .i64 0] 3)).t HK30.out |>.kept HKP.out fun i hi => by
    have := ((HK1.out.t HK2.out).t HK3.out).size
    simp at this
    omega
  have ne1 : w.heap.size ≠ w4.heap.size := by omega
  have ne2 : w.heap.size ≠ w4.heap.size + 1 + 1 := by omega
  have ne3 : w.heap.size ≠ w4.heap.size + 1 + 1 + 1 := by omega
  have HST := hid (And.intro HMS.out ((((HKS.out.alloc (.cells #[.map (some (w3.heap.size + 1))] 105)).alloc (kobj k0)).alloc (.cells #[.slice (some ⟨w4.heap.size + 1, 0, none⟩) 1 1] 106)).alloc (.cells #[.slice none 0 0] 106)))
  clear t0 t1 t2 t3 t4 HMS HM4 HKN HKP HR5 HRT HRK HKE HM1 HF1 HU2 c5 f5
  unfold kobj at HST
  refine wpCode_world (fun W => Mem W ⟨w.heap.size, w4.heap.size, 0, w4.heap.size + 1 + 1, w4.heap.size + 1 + 1 + 1, w3.heap.size + 1, w.heap.size⟩ 0 [k0] [] (Sx.put (fun _ => none) k0 ⟨m0, 0, 0, ⟨0, 0, 0, 0, 0⟩, true⟩) none ∧ KW w W) HST.out ?_
  clear HST
  generalize hq3 : w3.heap.size + 1 = q3 at *
  generalize hq4 : w4.heap.size = q4 at *
  rintro W ⟨hMw, hKw⟩
  have HMW := hid hMw
  have HKW := hid hKw
  have c5 : W.cell? ⟨w.heap.size, 0, none⟩ = some (.int .i64 0) := hMw.tot.cell (i := 0) (by omega)
  have f5 : W.frozen? ⟨w.heap.size, 0, none⟩ = false := hMw.tot.frozen 0
  have l6 : w.heap.size < W.heap.size := hMw.tot.lt
  clear hMw hKw
  obtain ⟨g0, hg0⟩ : ∃ g0 : Sx.G, g0 = Sx.put (fun _ => none) k0 ⟨m0, 0, 0, ⟨0, 0, 0, 0, 0⟩, true⟩ := ⟨_, rfl⟩
  rw [← hg0] at HMW H0 HD0 HW0
  have HRI : Hid (RI w (W.setCell ⟨w.heap.size, 0, none⟩ (.int .i64 0)) ⟨w.heap.size, q4, 0, q4 + 1 + 1, q4 + 1 + 1 + 1, q3, w.heap.size⟩ l s 0 [k0] [] g0 (Sx.M l 0 [k0] [] g0)) := by
    refine ⟨rfl, ?_, fun h => (by cases h), HMW.out.setT 0, H0.out, HD0.out, (KW.refl w).kept ((HKW.out.keep (own := (· = w.heap.size))).setCell ⟨w.heap.size, 0, none⟩ _ rfl) fun i hi => by omega⟩
    have := HW0.out
    unfold Sx.M
    simp only [List.length_singleton, List.length_nil]
    omega
  have HbS : Hid (∀ i, (⟨w.heap.size, q4, 0, q4 + 1 + 1, q4 + 1 + 1 + 1, q3, w.heap.size⟩ : Bx).S i → w.heap.size ≤ i) := fun i hi => by
    have h3 := ((HK1.out.t HK2.out).t HK3.out).size
    simp at h3
    rcases hi with e | e | e | e | e
    · exact Nat.le_of_eq e.symm
    · have e' : i = q4 := e
      omega
    · have e' : i = q4 + 1 + 1 := e
      omega
    · have e' : i = q4 + 1 + 1 + 1 := e
      omega
    · have e' : i = q3 := e
      omega
  generalize hB : (⟨w.heap.size, q4, 0, q4 + 1 + 1, q4 + 1 + 1 + 1, q3, w.heap.size⟩ : Bx) = B at *
  have HBt : Hid (B.bt = w.heap.size) := by rw [← hB]; exact hid rfl
  have HBk : Hid (B.bk = q4) := by rw [← hB]; exact hid rfl
  have HBn : Hid (B.bn = q4 + 1 + 1) := by rw [← hB]; exact hid rfl
  have HBf : Hid (B.bf = q4 + 1 + 1 + 1) := by rw [← hB]; exact hid rfl
  have HBm : Hid (B.mb = q3) := by rw [← hB]; exact hid rfl
  have HBb : Hid (B.base = w.heap.size) := by rw [← hB]; exact hid rfl
  have hl1 : w.heap.size < q4 := l5
  clear hB HMW HKW HKS H0 HD0 HW0 HK1 HK2 HK3 HK30 HNE hmm HN HSp HOf hg0 HSm HI hq3 hq4 l4
  go_step3
  go_wp2_with fail
  go_loopg [] 131073 (fun gk wr => ∃ (T : Int) (near : List Ky) (g : Sx.G) (n : Nat), T + gk = 131073 ∧ 0 ≤ T ∧ near ≠ [] ∧ Hid (RI w wr B l s T near [] g n))
  case atStart => exact ⟨0, [k0], g0, _, rfl, by omega, by simp, HRI⟩
  case round =>
    clear HRI
    obtain ⟨T, near0, g0', n0, hTg, hT0, hne0, HR0⟩ := hrel
    clear c5 f5 l6
    have HTg := hid hTg
    clear hTg hne0
    have hT1 : T ≤ 1000000 := by have := HR0.out.tm; omega
    go_wp2_with fail
    go_loopg [] n0 (fun gk wr => ∃ (near far : List Ky) (g : Sx.G), Hid (RI w wr B l s T near far g gk))
    case atStart => exact ⟨near0, [], g0', HR0⟩
    case round =>
      clear HR0
      obtain ⟨near, far, g, HR⟩ := hrel
      obtain ⟨h1, h2, ⟨vn, vf, n1, n2, n3, n4, n5, _⟩, _, _, _⟩ := HR.out.mem
      rw [HBt.out] at h1
      rw [HBn.out] at n1
      rw [HBf.out] at n2
      rw [HBk.out] at h2
      have c4 := h1.cell (i := 0) (by omega)
      have f4 := h1.frozen 0
      have l4 := h1.lt
      have c10 := h2.cell (i := 0) (by omega)
      have l10 := h2.lt
      rcases List.eq_nil_or_concat near with rfl | ⟨near', k, rfl⟩
      · obtain ⟨A1, cc1, rfl, _, _⟩ := n3.slice
        obtain ⟨A2, cc2, rfl, _, _⟩ := n4.slice
        have c11 : wr.cell? ⟨q4 + 1 + 1, 0, none⟩ = some (.slice A1 0 cc1) := n1.cell (i := 0) (by omega)
        have f11 := n1.frozen 0
        have l11 := n1.lt
        have c12 : wr.cell? ⟨q4 + 1 + 1 + 1, 0, none⟩ = some (.slice A2 far.length cc2) := n2.cell (i := 0) (by omega)
        have f12 := n2.frozen 0
        have l12 := n2.lt
        have HR' := HR
        have hLS := HLS.out
        have HN1 := hid h1
        by_cases hf : far = []
        · subst hf
          have HNo := hid (Sx.SI.none_left (by omega) hLS.2 HR.out.si)
          have HKf := hid HR.out.kw
          clear hLS n1 n2 n3 n4 n5 h1 h2
          go_wp2_with fail
          simp only [Exit.noGoto]
          refine bodyPost_ret (results_one_tmp2 rfl _ _ _ (.int .i64 0) _ rfl ((HN1.out.set 0 (.int .i64 0)).cell (i := 0) (by omega)) Try.underlying3 rfl) rfl ?_
          exact ⟨(KW.refl w).kept ((HKf.out.keep (own := (· = w.heap.size))).setCell ⟨w.heap.size, 0, none⟩ _ rfl) fun i hi => by omega, .inr ⟨rfl, HNo.out⟩⟩
        · obtain ⟨vf', q1, q2, n', hRI, hle⟩ := HR.out.more hf HbS.out
          rw [HBf.out] at q1
          obtain rfl := row_val n2 q1
          rw [HBn.out, HBf.out, HBt.out] at hRI
          have HRI := hid hRI
          have L0 : ((far.length : Int) == 0) = false := beq_eq_false_iff_ne.2 (by have : far.length ≠ 0 := fun h => hf (List.length_eq_zero_iff.1 h); omega)
          have L1 : IntKind.i64.wrap (T + 1) = T + 1 := IntWalk.i64_in _ (by omega)
          have HF := hid hf
          have HLE := hid hle
          clear hLS n1 n2 n3 n4 n5 h1 h2 hf q1 q2 hRI hle
          go_wp2_with fail
          go_roundg (131072 - T).toNat
          case measure =>
            have h1 := HTg.out
            have h2 := HLE.out
            omega
          case rel =>
            have h1 := HTg.out
            have h2 := HLE.out
            exact ⟨T + 1, far, g, n', by omega, by omega, HF.out, HRI⟩
      · rw [List.concat_eq_append] at HR n3
        have hbn : w.heap.size ≤ B.bn := by have h1 := HBn.out; omega
        obtain ⟨gb, cap, r1, lgb, hcap, hcell, f, fd, gd, v, hRT⟩ := HR.out.pop HLS.out.1 hbn
        rw [HBn.out] at r1 hRT
        have c11 : wr.cell? ⟨q4 + 1 + 1, 0, none⟩ = some (.slice (some ⟨gb, 0, none⟩) (near'.length + 1) cap) := r1.cell (i := 0) (by omega)
        have f11 := r1.frozen 0
        have l11 := r1.lt
        have k0 : wr.cell? ⟨gb, near'.length * 5, none⟩ = some (.int .i64 k.at_) := hcell 0 (by omega)
        have k1 : wr.cell? ⟨gb, near'.length * 5 + 1, none⟩ = some (.int .i64 k.pend) := hcell 1 (by omega)
        have k2 : wr.cell? ⟨gb, near'.length * 5 + 2, none⟩ = some (.int .i64 k.x) := hcell 2 (by omega)
        have k3 : wr.cell? ⟨gb, near'.length * 5 + 3, none⟩ = some (.int .i64 k.y) := hcell 3 (by omega)
        have k4 : wr.cell? ⟨gb, near'.length * 5 + 4, none⟩ = some (.int .i64 k.z) := hcell 4 (by omega)
        unfold kobj at hRT
        rw [World.setCell_alloc_past _ _ _ _ l11] at hRT
        have HRT := hid hRT
        generalize hN : near'.length = N at *
        have L3 : N < N + 1 := Nat.lt_succ_self N
        have L4 : (0 : Int) < (N : Int) + 1 := by omega
        have hN2 : (N : Int) ≤ 131073 := by
          have h1 := HR.out.mes
          have h2 := HR.out.tm
          unfold Sx.M at h1
          simp only [List.length_append, List.length_singleton] at h1
          omega
        clear n1 n2 n3 n4 n5 h1 h2 r1 hRT hcell HR
        go_upto_region 12 with fail
        refine wpCode_world (fun W => RT29 w W B wr.heap.size l s T near' far g gk k f fd gd v) HRT.out ?_
        clear HRT c4 f4 l4 c10 l10 c11 f11 l11 k0 k1 k2 k3 k4 hN lgb hcap
        generalize wr.heap.size = bq
        rintro W hW
        have HW1 := hid hW
        obtain ⟨m1, m2, ⟨un, uf, _, _, _, _, _, m6⟩, _, _, _⟩ := hW.mem
        have m6 := (m6 k rfl).1
        have c10 : W.cell? ⟨q4, 0, none⟩ = some (.map (some q3)) := by have h := m2.cell (i := 0) (by omega); rw [← HBk.out, ← HBm.out]; exact h
        have l10 : q4 < W.heap.size := by rw [← HBk.out]; exact m2.lt
        have t0 : W.cell? ⟨bq, 0, none⟩ = some (.int .i64 k.at_) := m6.cell (i := 0) (by omega)
        have t1 : W.cell? ⟨bq, 1, none⟩ = some (.int .i64 k.pend) := m6.cell (i := 1) (by omega)
        have t2 : W.cell? ⟨bq, 2, none⟩ = some (.int .i64 k.x) := m6.cell (i := 2) (by omega)
        have t3 : W.cell? ⟨bq, 3, none⟩ = some (.int .i64 k.y) := m6.cell (i := 3) (by omega)
        have t4 : W.cell? ⟨bq, 4, none⟩ = some (.int .i64 k.z) := m6.cell (i := 4) (by omega)
        have lq : bq < W.heap.size := m6.lt
        have HKN := hid hW.kn
        rw [HBm.out] at HKN
        have HSk := hid hW.sm
        have HLo : Hid ((if false = true then (.tuple #[fdo (gd k), .bool (gd k).isSome] : Value) else fdo (gd k)) = fdv fd) := by
          show _ = _
          rw [if_neg (by decide), hW.gk]
          rfl
        clear m1 m2 m6 hW
        go_upto_region 13 with (at_lookup; refine wpList_look _ rfl _ _ false rfl q3 gd rfl HKN.out k rfl HSk.out _ HLo.out ?_; unfold fdv)
        refine wpCode_world (fun W2 => RT29 w W2 B bq l s T near' far g gk k f fd gd v ∧ W2.rowIs W.heap.size 104 10 (fcs fd)) ⟨HW1.out.kw' ((KW.refl W).alloc _), fcs_new W fd⟩ ?_
        clear HKN HSk HLo t0 t1 t2 t3 t4 lq c10 l10
        generalize W.heap.size = xb
        rintro W2 ⟨hW2, hx⟩
        have HW2 := hid hW2
        have x0 : W2.cell? ⟨xb, 0, none⟩ = some (.pointer (some ⟨fd.mb, 0, none⟩)) := hx.cell (i := 0) (by omega)
        have x1 : W2.cell? ⟨xb, 1, none⟩ = some (.int .i64 fd.tot) := hx.cell (i := 1) (by omega)
        have lx := hx.lt
        obtain ⟨m1, m2, ⟨un, uf, _, _, _, _, _, m6⟩, _, _, _⟩ := hW2.mem
        have m6 := (m6 k rfl).1
        have c4 : W2.cell? ⟨w.heap.size, 0, none⟩ = some (.int .i64 T) := by have h := m1.cell (i := 0) (by omega); rw [← HBt.out]; exact h
        have l4 : w.heap.size < W2.heap.size := by rw [← HBt.out]; exact m1.lt
        by_cases hT : fd.tot = T
        · have d0 : (fd.tot != T) = false := bne_eq_false_iff_eq.2 hT
          have HDo := hid (done_any f.m fd.mb v W2 hW2.mach)
          by_cases hp : f.m.pend = 0
          · rw [show (f.m.pend == 0) = true by rw [hp]; rfl] at HDo
            have c10 : W2.cell? ⟨q4, 0, none⟩ = some (.map (some q3)) := by have h := m2.cell (i := 0) (by omega); rw [← HBk.out, ← HBm.out]; exact h
            have l10 : q4 < W2.heap.size := by rw [← HBk.out]; exact m2.lt
            have t0 : W2.cell? ⟨bq, 0, none⟩ = some (.int .i64 k.at_) := m6.cell (i := 0) (by omega)
            have t1 : W2.cell? ⟨bq, 1, none⟩ = some (.int .i64 k.pend) := m6.cell (i := 1) (by omega)
            have t2 : W2.cell? ⟨bq, 2, none⟩ = some (.int .i64 k.x) := m6.cell (i := 2) (by omega)
            have t3 : W2.cell? ⟨bq, 3, none⟩ = some (.int .i64 k.y) := m6.cell (i := 3) (by omega)
            have t4 : W2.cell? ⟨bq, 4, none⟩ = some (.int .i64 k.z) := m6.cell (i := 4) (by omega)
            have lq : bq < W2.heap.size := m6.lt
            have HM1 := hid m1
            obtain ⟨z1, z2, la, hw, hlen, hdoes, htot⟩ := hW2.fin HLS.out.1 HLS.out.2 hT hp
            have HFin := hid (And.intro z1 (And.intro z2 (And.intro hlen (And.intro hdoes (And.intro hp htot)))))
            have HKN := hid hW2.kn
            rw [HBm.out] at HKN
            have HKw := hid hW2.kw
            have hle := hW2.le
            have HPa := hid (fun W' (hk : KW W2 W') => path_any W' q3 gd g k la (HKN.out.keep (hk.keep (own := fun _ => False)) id) hle hw (by omega))
            clear m1 m2 m6 hx hW2 hT hp z1 z2 hw hlen hdoes htot hle
            go_wp2_with fail
            refine HDo.out.mono ?_
            rintro e w5 ⟨rfl, rfl⟩
            clear x0 x1 lx
            go_wp2_with fail
            have hXS := And.intro c4 (And.intro c10 (And.intro t0 (And.intro t1 (And.intro t2 (And.intro t3 t4)))))
            have HX := hid hXS
            have HSS := hid (fun w' (hq : KW W2 w') => And.intro (KW.cell hq l4 c4) (And.intro (KW.cell hq l10 c10) (And.intro (KW.cell hq lq t0) (And.intro (KW.cell hq lq t1) (And.intro (KW.cell hq lq t2) (And.intro (KW.cell hq lq t3) (KW.cell hq lq t4)))))))
            clear c4 c10 t0 t1 t2 t3 t4
            refine wpX_region (S := fun w' => w'.cell? ⟨w.heap.size, 0, none⟩ = some (.int .i64 T) ∧ w'.cell? ⟨q4, 0, none⟩ = some (.map (some q3)) ∧ w'.cell? ⟨bq, 0, none⟩ = some (.int .i64 k.at_) ∧ w'.cell? ⟨bq, 1, none⟩ = some (.int .i64 k.pend) ∧ w'.cell? ⟨bq, 2, none⟩ = some (.int .i64 k.x) ∧ w'.cell? ⟨bq, 3, none⟩ = some (.int .i64 k.y) ∧ w'.cell? ⟨bq, 4, none⟩ = some (.int .i64 k.z)) (L := 99) (by kernel_rfl) ?_
            refine wpX_take (i := 0) (v := ?_) rfl rfl (by kernel_rfl) (fun _ _ _ h => h) (Or.inl ⟨rfl, fun wS hwS => ?_⟩) hXS ?_
            rotate_left
            · go_simp; try rfl
            simp only [List.set_cons_zero, List.set_cons_succ]
            refine wpX_take (i := 1) (v := ?_) rfl rfl (by kernel_rfl) (fun _ _ _ h => h) (Or.inl ⟨rfl, fun wS hwS => ?_⟩) hXS ?_
            rotate_left
            · go_simp; try rfl
            simp only [List.set_cons_zero, List.set_cons_succ]
            refine wpX_take (i := 2) (v := ?_) rfl rfl (by kernel_rfl) (fun _ _ _ h => h) (Or.inl ⟨rfl, fun wS hwS => ?_⟩) hXS ?_
            rotate_left
            · go_simp; try rfl
            simp only [List.set_cons_zero, List.set_cons_succ]
            refine wpX_hard (k := 3) (by kernel_rfl) rfl (fun K hK => ?_)
            go_simp
            refine (HPa.out _ (KW.refl W2).drew).mono ?_; rintro e w5 ⟨pv, rfl, ho5, hk5⟩; have HO5 := hid ho5; have HK5 : Hid (KW W2 w5) := (KW.refl W2).drew.t hk5; clear ho5 hk5
            refine hK _ _ (fun _ => HSS.out _ HK5.out) ?_
            clear hK K
            try simp only [List.set_cons_zero, List.set_cons_succ]
            have r5 := KW.row HK5.out HM1.out.lt HM1.out
            rw [HBt.out] at r5
            have HSelf := hid (setCell_self r5)
            have HR5 := hid r5
            have e5 : w5.cell? ⟨w.heap.size, 0, none⟩ = some (.int .i64 T) := r5.cell (i := 0) (by omega)
            have g5 := r5.frozen 0
            have l5' := r5.lt
            clear r5 hXS
            have hXS := HSS.out _ HK5.out
            refine wpX_hard (k := 4) (by kernel_rfl) rfl (fun K hK => ?_)
            go_simp
            refine hK _ _ (fun _ => by rw [HSelf.out]; exact HSS.out _ HK5.out) ?_
            clear hK K
            try simp only [List.set_cons_zero, List.set_cons_succ]
            rw [HSelf.out]
            refine wpX_take (i := 5) (v := ?_) rfl rfl (by kernel_rfl) (fun _ _ _ h => h) (Or.inl ⟨rfl, fun wS hwS => ?_⟩) hXS ?_
            rotate_left
            · go_simp; try rfl
            simp only [List.set_cons_zero, List.set_cons_succ]
            refine wpX_take (i := 6) (v := ?_) rfl rfl (by kernel_rfl) (fun _ _ _ h => h) (Or.inl ⟨rfl, fun wS hwS => ?_⟩) hXS ?_
            rotate_left
            · go_simp; try rfl
            simp only [List.set_cons_zero, List.set_cons_succ]
            refine wpX_done (by kernel_rfl) ?_
            clear hXS
            go_wp2_with fail
            simp only [Exit.noGoto]
            refine bodyPost_ret (results_one_tmp2 rfl _ _ _ (.int .i64 T) _ rfl e5 Try.underlying3 rfl) rfl ?_
            obtain ⟨z1, z2, hlen, hdoes, hp, htot⟩ := HFin.out
            exact ⟨HKw.out.t HK5.out, .inl ⟨T, pv, la, f.m, rfl, z1, z2, HO5.out.base HKw.out.size, hlen, hdoes, hp, htot⟩⟩
          · rw [show (f.m.pend == 0) = false from beq_eq_false_iff_ne.2 hp] at HDo
            have HNx := hid (next_any W2 { B with bq := bq } l s T k f (gk - 1) (hW2.sr hT) HLS.out.1 HLS.out.2 (by have h1 := hW2.tm; have h2 := hW2.mes; omega) hT1 fd.mb v hW2.mach hW2.ap)
            unfold seeF at HNx
            have HEnd := hid (fun W3 (h1 : Sr W3 { B with bq := bq } l s T k f (Sx.allActs s) (gk - 1)) (h2 : Keep (({ B with bq := bq } : Bx).own W2) W2 W3) => hW2.next hp h1 h2 (by rw [HBb.out]; exact Nat.le_refl _) HbS.out)
            simp only [HBt.out, HBn.out, HBf.out, HBk.out] at HNx HEnd
            clear m1 m2 m6 hx hW2 hT hp
            go_wp2_with fail
            refine HDo.out.mono ?_
            rintro e w5 ⟨rfl, rfl⟩
            go_wp2_with fail
            refine HNx.out.mono ?_
            rintro e w6 ⟨rfl, hs6, hk6⟩
            obtain ⟨near2, far2, g2, n2, hlt2, hRI2⟩ := HEnd.out w6 hs6 hk6
            have HRI := hid hRI2
            clear hs6 hk6 hRI2
            go_wp2_with fail
            go_roundg n2
            case measure => exact hlt2
            case rel => exact ⟨near2, far2, g2, HRI⟩
        · obtain ⟨n', hlt, hRI⟩ := hW2.skip hT
          have HRI := hid hRI
          have d0 : (fd.tot != T) = true := bne_iff_ne.2 hT
          clear m1 m2 m6 hx hW2 hRI hT
          go_wp2_with fail
          go_roundg n'
          case measure => exact hlt
          case rel => exact ⟨near', far, g, HRI⟩

end Go.Proofs.Ytgadkelldbibgaa

/- best.Search outside its bounds; the page's example of law 29. -/
namespace Go.Proofs.Ytgadkelldbibgaa
open Go.ChangeShapes Go.WideShapes Go.ChangeAt Go.RowKit
set_option linter.unusedVariables false

set_option maxRecDepth 100000 in
set_option maxHeartbeats 1000000 in
theorem search_no (l s : Int) (w : World) (h : l < 0 ∨ 5 < l ∨ s < 0 ∨ 3 < s) :
    Calls Try.prog 36 #[.int .i64 l, .int .i64 s] w fun e w' => e = .returned (.tuple #[.int .i64 0, .slice none 0 0, .int .i64 2]) ∧ KW w w' := by
  have hx : l < 0 ∨ (decide (l < 0) = false ∧ 5 < l) ∨ (decide (l < 0) = false ∧ decide (5 < l) = false ∧ s < 0) ∨ (decide (l < 0) = false ∧ decide (5 < l) = false ∧ decide (s < 0) = false ∧ 3 < s) := by
    simp only [decide_eq_false_iff_not]
    omega
  have HR := hid (World.rowIs_alloc w #[.int .i64 0] 3 (fun _ => .int .i64 0) fun i hi => by match i, hi with | 0, _ => rfl)
  have hk : KW w (w.alloc (.cells #[.int .i64 0] 3)) := (KW.refl w).alloc _
  have HK := hid hk
  clear h hk
  rcases hx with h1 | ⟨h1, h2⟩ | ⟨h1, h2, h3⟩ | ⟨h1, h2, h3, h4⟩
  all_goals
    go_enter Try.func36, Try.ntmps36
    go_wp2_with fail
    refine wp_scope_straight ?_
    go_wp2_with fail
    simp only [Exit.noGoto]
    exact bodyPost_ret (results_one_tmp2 rfl _ _ _ (.int .i64 0) _ rfl (HR.out.cell (i := 0) Nat.zero_lt_one) Try.underlying3 rfl) rfl ⟨rfl, HK.out⟩

theorem search31 (w : World) : Calls Try.prog 36 #[.int .i64 3, .int .i64 1] w fun e w' => ∃ v, e = .returned (.tuple #[.int .i64 3, v, .int .i64 0]) ∧ KW w w' := by
  refine (search_yes 3 1 w (by omega) (by omega)).mono ?_
  rintro e w' ⟨hk, ⟨T, v, la, m', rfl, h1, _⟩ | ⟨_, h0, _⟩⟩
  · have e3 : Ch.tt 3 1 = 3 := by decide +kernel
    rw [e3] at h1
    have : T = 3 := h1 (by omega)
    subst this
    exact ⟨v, rfl, hk⟩
  · omega
theorem search20 (w : World) : Calls Try.prog 36 #[.int .i64 2, .int .i64 0] w fun e w' => e = .returned (.tuple #[.int .i64 0, .slice none 0 0, .int .i64 13]) ∧ KW w w' := by
  refine (search_yes 2 0 w (by omega) (by omega)).mono ?_
  rintro e w' ⟨hk, ⟨T, v, la, m', rfl, h1, h2, _⟩ | ⟨rfl, h0, _⟩⟩
  · have := (h2 rfl).1
    omega
  · exact ⟨rfl, hk⟩
theorem least103 (w : World) : Calls Try.prog 30 #[.int .i64 10, .int .i64 3] w fun e w' => e = .returned (.tuple #[.int .i64 15, .int .i64 0]) ∧ KW w w' := by
  have h := least29_yes 10 3 w (by omega) (by omega) (by omega)
  rw [show Ch.tt 10 3 = 15 from by decide +kernel] at h
  exact h

theorem goes29_any (w : World) : Calls Try.prog 35 #[] w fun e w' => e = .returned (.bool true) ∧ KW w w' := by
  have H1 := hid (least103 w)
  have H2 := hid (fun W => search31 W)
  have H3 := hid (fun W => search20 W)
  go_enter Try.func35, Try.ntmps35
  go_wp2_with fail
  refine H1.out.mono ?_
  rintro e w1 ⟨rfl, hk1⟩
  have HK1 := hid hk1
  clear hk1
  go_wp2_with fail
  refine (H2.out _).mono ?_
  rintro e w2 ⟨v, rfl, hk2⟩
  have HK2 := hid (HK1.out.t hk2)
  clear hk2
  go_wp2_with fail
  refine (H3.out _).mono ?_
  rintro e w3 ⟨rfl, hk3⟩
  have HK3 := hid (HK2.out.t hk3)
  clear hk3
  go_wp2_with fail
  go_ret
  exact ⟨rfl, HK3.out⟩

end Go.Proofs.Ytgadkelldbibgaa

/- BestAny, BestAll. -/
namespace Go.Proofs.Ytgadkelldbibgaa
open Go.ChangeShapes Go.WideShapes Go.ChangeAt Go.RowKit
set_option linter.unusedVariables false

theorem chk_does : ∀ (list : List Mc.Act) (m : Mc.St) (k : Nat), ((Mc.chk m list k).2.2 = 0 ∧ ∃ m', Mc.Does m list m' ∧ m'.pend = 0 ∧ (Mc.chk m list k).1 = m'.tot) ∨ ((Mc.chk m list k).2.2 ≠ 0 ∧ (Mc.chk m list k).1 = 0)
  | [], m, k => by
    rw [Mc.chk_nil]
    by_cases h : m.pend = 0
    · rw [if_pos h]; exact .inl ⟨rfl, m, rfl, h, rfl⟩
    · rw [if_neg h]; exact .inr ⟨by show (19 : Int) ≠ 0; decide, rfl⟩
  | a :: l, m, k => by
    rw [Mc.chk]
    by_cases h : (Mc.step m a.1 a.2).2 = 0
    · rw [if_pos h]
      rcases chk_does l (Mc.step m a.1 a.2).1 (k + 1) with ⟨h1, m', h2, h3, h4⟩ | h1
      · exact .inl ⟨h1, m', ⟨h, h2⟩, h3, h4⟩
      · exact .inr h1
    · rw [if_neg h]; exact .inr ⟨h, rfl⟩
theorem check_does (l : Int) (n : Nat) (hn : n ≤ 1048576) (list : List Mc.Act) : ((Mc.check l n list).2.2 = 0 ∧ 0 ≤ l ∧ l < 65536 ∧ ∃ m', Mc.Does (Mc.new l n) list m' ∧ m'.pend = 0 ∧ (Mc.check l n list).1 = m'.tot) ∨ ((Mc.check l n list).2.2 ≠ 0 ∧ (Mc.check l n list).1 = 0) := by
  unfold Mc.check
  by_cases h : 0 ≤ l ∧ l < 65536 ∧ 0 ≤ (n : Int) ∧ (n : Int) ≤ 1048576
  · rw [if_pos h, Int.toNat_natCast]
    rcases chk_does list (Mc.new l n) 0 with ⟨h1, h2⟩ | h1
    · exact .inl ⟨h1, h.1, h.2.1, h2⟩
    · exact .inr h1
  · rw [if_neg h]
    exact .inr ⟨by decide, rfl⟩

theorem any_goes (l n : Int) (N c : Nat) (A : Option Addr) (w : World) (h : n < 0 ∨ 200 < n ∨ 600 < N) :
    Calls Try.prog 12 #[.int .i64 l, .int .i64 n, .slice A N c] w fun e w' => e = .returned (.bool true) ∧ KW w w' := by
  have hx : n < 0 ∨ (decide (n < 0) = false ∧ 200 < n) ∨ (decide (n < 0) = false ∧ decide (200 < n) = false ∧ (600 : Int) < (N : Int)) := by
    simp only [decide_eq_false_iff_not]
    omega
  have HG := hid (goes29_any w)
  clear h
  rcases hx with h1 | ⟨h1, h2⟩ | ⟨h1, h2, h3⟩
  all_goals
    go_enter Try.func12, Try.ntmps12
    go_wp2_with fail
    refine HG.out.mono ?_
    rintro e w1 ⟨rfl, hk1⟩
    go_wp2_with fail
    go_ret
    exact ⟨rfl, hk1⟩

set_option maxRecDepth 100000 in
theorem any_main (l : Int) (n : Nat) (A : Option Addr) (c : Nat) (list : List Mc.Act) (w : World) (hn : n ≤ 200) (hN : list.length ≤ 600) (hA : Acts w A list) :
    Calls Try.prog 12 #[.int .i64 l, .int .i64 n, .slice A list.length c] w fun e w' => e = .returned (.bool true) ∧ KW w w' := by
  have d1 : decide ((n : Int) < 0) = false := decide_eq_false (by omega)
  have d2 : decide (200 < (n : Int)) = false := decide_eq_false (by omega)
  have d3 : decide (600 < (list.length : Int)) = false := decide_eq_false (by omega)
  have HC := hid (check_any l n A c list w (by omega) hA)
  unfold CheckP at HC
  have HG := hid (fun W => goes29_any W)
  rcases check_does l n (by omega) list with ⟨e1, l0, l1, m', hd, hp, e2⟩ | ⟨e1, e2⟩
  · have hL := Lb.least l0 l1 (by omega) hd hp
    rw [e1, e2] at HC
    generalize (Mc.check l n list).2.1 = q at *
    generalize m'.tot = t at *
    clear e1 e2 hd hp hA hN
    generalize list.length = N at *
    by_cases h0 : n = 0
    · subst h0
      have d4 : l ≤ 1 := hL.2.1 rfl
      clear hL
      go_enter Try.func12, Try.ntmps12
      go_wp2_with fail
      refine HC.out.mono ?_
      rintro e w1 ⟨rfl, hk1⟩
      have HK1 := hid hk1
      clear hk1
      go_wp2_with fail
      refine (HG.out _).mono ?_
      rintro e w2 ⟨rfl, hk2⟩
      have HK2 := hid (HK1.out.t hk2)
      clear hk2
      go_wp2_with fail
      go_ret
      exact ⟨rfl, HK2.out⟩
    · have d4 : ((n : Int) == 0) = false := beq_eq_false_iff_ne.2 (by omega)
      have h2 : (Ch.tt l.toNat n : Int) ≤ t := hL.1 (by omega)
      obtain ⟨L, rfl⟩ : ∃ L : Nat, l = L := ⟨l.toNat, by omega⟩
      have HT := hid (fun W => total_yes L n W (by omega) (by omega) (by omega))
      rw [Int.toNat_natCast] at h2
      generalize (Ch.tt L n : Int) = T at *
      clear hL h0
      go_enter Try.func12, Try.ntmps12
      go_wp2_with fail
      refine HC.out.mono ?_
      rintro e w1 ⟨rfl, hk1⟩
      have HK1 := hid hk1
      clear hk1
      go_wp2_with fail
      refine (HT.out _).mono ?_
      rintro e w2 ⟨rfl, hk2⟩
      have HK2 := hid (HK1.out.t hk2)
      clear hk2
      go_wp2_with fail
      refine (HG.out _).mono ?_
      rintro e w3 ⟨rfl, hk3⟩
      have HK3 := hid (HK2.out.t hk3)
      clear hk3
      go_wp2_with fail
      go_ret
      exact ⟨rfl, HK3.out⟩
  · rw [e2] at HC
    generalize (Mc.check l n list).2.1 = q at *
    generalize (Mc.check l n list).2.2 = er at *
    have d4 : (er != 0) = true := bne_iff_ne.2 e1
    clear e1 e2 hA hN
    generalize list.length = N at *
    go_enter Try.func12, Try.ntmps12
    go_wp2_with fail
    refine HC.out.mono ?_
    rintro e w1 ⟨rfl, hk1⟩
    have HK1 := hid hk1
    clear hk1
    go_wp2_with fail
    refine (HG.out _).mono ?_
    rintro e w2 ⟨rfl, hk2⟩
    have HK2 := hid (HK1.out.t hk2)
    clear hk2
    go_wp2_with fail
    go_ret
    exact ⟨rfl, HK2.out⟩

theorem bany_law (l n : Int) (A : Option Addr) (c : Nat) (list : List Mc.Act) (w : World) (_ : -9223372036854775808 ≤ l) (_ : l ≤ 9223372036854775807) (_ : -9223372036854775808 ≤ n) (_ : n ≤ 9223372036854775807)
    (_ : ∀ a ∈ list, (-9223372036854775808 ≤ a.1 ∧ a.1 ≤ 9223372036854775807) ∧ -9223372036854775808 ≤ a.2 ∧ a.2 ≤ 9223372036854775807) (hA : Acts w A list) :
    Calls Try.prog 12 #[.int .i64 l, .int .i64 n, .slice A list.length c] w fun e w' => e = .returned (.bool true) ∧ KW w w' := by
  by_cases h : n < 0 ∨ 200 < n ∨ 600 < list.length
  · exact any_goes l n list.length c A w h
  · obtain ⟨n', rfl⟩ : ∃ n' : Nat, n = n' := ⟨n.toNat, by omega⟩
    exact any_main l n' A c list w (by omega) (by omega) hA

/-! ### BestAll -/
theorem all_goes (l s : Int) (w : World) (h : l < 0 ∨ 300 < l ∨ s < 1 ∨ 12 < s) :
    Calls Try.prog 11 #[.int .i64 l, .int .i64 s] w fun e w' => e = .returned (.bool true) ∧ KW w w' := by
  have hx : l < 0 ∨ (decide (l < 0) = false ∧ 300 < l) ∨ (decide (l < 0) = false ∧ decide (300 < l) = false ∧ s < 1) ∨ (decide (l < 0) = false ∧ decide (300 < l) = false ∧ decide (s < 1) = false ∧ 12 < s) := by
    simp only [decide_eq_false_iff_not]
    omega
  have HG := hid (goes29_any w)
  clear h
  rcases hx with h1 | ⟨h1, h2⟩ | ⟨h1, h2, h3⟩ | ⟨h1, h2, h3, h4⟩
  all_goals
    go_enter Try.func11, Try.ntmps11
    go_wp2_with fail
    refine HG.out.mono ?_
    rintro e w1 ⟨rfl, hk1⟩
    go_wp2_with fail
    go_ret
    exact ⟨rfl, hk1⟩

set_option maxRecDepth 100000 in
theorem all_main (l s : Nat) (w : World) (hl : l ≤ 300) (s0 : 1 ≤ s) (s1 : s ≤ 12) :
    Calls Try.prog 11 #[.int .i64 l, .int .i64 s] w fun e w' => e = .returned (.bool true) ∧ KW w w' := by
  have d1 : decide ((l : Int) < 0) = false := decide_eq_false (by omega)
  have d2 : decide (300 < (l : Int)) = false := decide_eq_false (by omega)
  have d3 : decide ((s : Int) < 1) = false := decide_eq_false (by omega)
  have d4 : decide (12 < (s : Int)) = false := decide_eq_false (by omega)
  have HL := hid (fun W => least29_yes l s W hl s0 s1)
  have HT := hid (fun W => total_yes l s W (by omega) (by omega) (by omega))
  have HG := hid (fun W => goes29_any W)
  by_cases h : l ≤ 4 ∧ s ≤ 3
  · have HS : Hid (∀ W, Calls Try.prog 36 #[.int .i64 l, .int .i64 s] W fun e w' => ∃ v, e = .returned (.tuple #[.int .i64 (Ch.tt l s), v, .int .i64 0]) ∧ KW W w') := fun W => by
      refine (search_yes l s W (by omega) (by omega)).mono ?_
      rintro e w' ⟨hk, ⟨T, v, la, m', rfl, h1, _⟩ | ⟨_, h0, _⟩⟩
      · rw [h1 s0]
        exact ⟨v, rfl, hk⟩
      · omega
    have d5 : (l : Int) ≤ 4 := by omega
    have d6 : (s : Int) ≤ 3 := by omega
    generalize (Ch.tt l s : Int) = T at *
    clear hl s0 s1 h
    go_enter Try.func11, Try.ntmps11
    go_wp2_with fail
    refine (HL.out _).mono ?_
    rintro e w1 ⟨rfl, hk1⟩
    have HK1 := hid hk1
    clear hk1
    go_wp2_with fail
    refine (HT.out _).mono ?_
    rintro e w2 ⟨rfl, hk2⟩
    have HK2 := hid (HK1.out.t hk2)
    clear hk2
    go_wp2_with fail
    refine (HS.out _).mono ?_
    rintro e w3 ⟨v, rfl, hk3⟩
    have HK3 := hid (HK2.out.t hk3)
    clear hk3
    go_wp2_with fail
    refine (HG.out _).mono ?_
    rintro e w4 ⟨rfl, hk4⟩
    have HK4 := hid (HK3.out.t hk4)
    clear hk4
    go_wp2_with fail
    go_ret
    exact ⟨rfl, HK4.out⟩
  · have hx : decide ((l : Int) ≤ 4) = false ∨ ((l : Int) ≤ 4 ∧ decide ((s : Int) ≤ 3) = false) := by
      simp only [decide_eq_false_iff_not]
      omega
    generalize (Ch.tt l s : Int) = T at *
    clear hl s0 s1 h
    rcases hx with h1 | ⟨h1, h2⟩
    all_goals
      go_enter Try.func11, Try.ntmps11
      go_wp2_with fail
      refine (HL.out _).mono ?_
      rintro e w1 ⟨rfl, hk1⟩
      have HK1 := hid hk1
      clear hk1
      go_wp2_with fail
      refine (HT.out _).mono ?_
      rintro e w2 ⟨rfl, hk2⟩
      have HK2 := hid (HK1.out.t hk2)
      clear hk2
      go_wp2_with fail
      refine (HG.out _).mono ?_
      rintro e w4 ⟨rfl, hk4⟩
      have HK4 := hid (HK2.out.t hk4)
      clear hk4
      go_wp2_with fail
      go_ret
      exact ⟨rfl, HK4.out⟩

theorem ball_law (l s : Int) (w : World) (_ : -9223372036854775808 ≤ l) (_ : l ≤ 9223372036854775807) (_ : -9223372036854775808 ≤ s) (_ : s ≤ 9223372036854775807) :
    Calls Try.prog 11 #[.int .i64 l, .int .i64 s] w fun e w' => e = .returned (.bool true) ∧ KW w w' := by
  by_cases h : l < 0 ∨ 300 < l ∨ s < 1 ∨ 12 < s
  · exact all_goes l s w h
  · obtain ⟨L, rfl⟩ : ∃ L : Nat, l = L := ⟨l.toNat, by omega⟩
    obtain ⟨n, rfl⟩ : ∃ n : Nat, s = n := ⟨s.toNat, by omega⟩
    exact all_main L n w (by omega) (by omega) (by omega)

end Go.Proofs.Ytgadkelldbibgaa
