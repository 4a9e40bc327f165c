import Derived.Test.YtphppbonljdibaaGreatTO39
import Derived.Test.YtphppbonljdibaaGreatTO38
import Derived.Test.YtphppbonljdibaaGreatTO19
import Derived.Test.YtphppbonljdibaaGreatTO00
import Derived.Lib.SmallJoins
import Derived.Deep.SlicePairs
import Derived.Deep.Slices
import Derived.JoinedCond
set_option maxRecDepth 100000
set_option maxHeartbeats 4000000
set_option linter.unusedVariables false
set_option linter.unusedSimpArgs false
namespace Go.Proofs.YtphppbonljdibaaGreat
open Go.ChangeShapes Go.WideShapes Go.ChangeAt Go.RowKit
theorem rnt_fin (nx : Dy → Bool → Option Mc.Act) (D : Ds) (m lim : Int) (hm : m ≠ 2) : ∀ (T : Nat) (S : Dy) (b : Bool) (fed : Nat) (L : List Mc.Act) (S' : Dy) (b' : Bool), RnT nx D m lim T S b fed L S' b' → S' = S.acts D L ∧ b' = b
  | 0, S, b, fed, L, S', b', h => by
    obtain ⟨rfl, rfl, rfl, _⟩ := h
    exact ⟨rfl, rfl⟩
  | T + 1, S, b, fed, L, S', b', h => by
    rcases h with ⟨k, n, L', rfl, _, _, h⟩ | ⟨_, h, _⟩ | ⟨_, h, _⟩
    · have g := rnt_fin nx D m lim hm T (S.act D k n) b fed L' S' b' h
      exact g
    · exact absurd h hm
    · exact absurd h hm
theorem chk_does35 : ∀ (list : List Mc.Act) (m : Mc.St) (k : Nat), ((Mc.chk m list k).2.2 = 0 ∧ ∃ m', Mc.Does m list m' ∧ m'.pend = 0 ∧ (Mc.chk m list k).1 = m'.tot) ∨ ((Mc.chk m list k).2.2 ≠ 0 ∧ (Mc.chk m list k).1 = 0)
  | [], m, k => by
    rw [Mc.chk_nil]
    by_cases h : m.pend = 0
    · rw [if_pos h]; exact .inl ⟨rfl, m, rfl, h, rfl⟩
    · rw [if_neg h]; exact .inr ⟨by show (19 : Int) ≠ 0; decide, rfl⟩
  | a :: l, m, k => by
    rw [Mc.chk]
    by_cases h : (Mc.step m a.1 a.2).2 = 0
    · rw [if_pos h]
      rcases chk_does35 l (Mc.step m a.1 a.2).1 (k + 1) with ⟨h1, m', h2, h3, h4⟩ | h1
      · exact .inl ⟨h1, m', ⟨h, h2⟩, h3, h4⟩
      · exact .inr h1
    · rw [if_neg h]; exact .inr ⟨h, rfl⟩
theorem check_does35 (l : Int) (n : Nat) (hn : n ≤ 1048576) (list : List Mc.Act) : ((Mc.check l n list).2.2 = 0 ∧ 0 ≤ l ∧ l < 65536 ∧ ∃ m', Mc.Does (Mc.new l n) list m' ∧ m'.pend = 0 ∧ (Mc.check l n list).1 = m'.tot) ∨ ((Mc.check l n list).2.2 ≠ 0 ∧ (Mc.check l n list).1 = 0) := by
  unfold Mc.check
  by_cases h : 0 ≤ l ∧ l < 65536 ∧ 0 ≤ (n : Int) ∧ (n : Int) ≤ 1048576
  · rw [if_pos h, Int.toNat_natCast]
    rcases chk_does35 list (Mc.new l n) 0 with ⟨h1, h2⟩ | h1
    · exact .inl ⟨h1, h.1, h.2.1, h2⟩
    · exact .inr h1
  · rw [if_neg h]
    exact .inr ⟨by decide, rfl⟩
def Hd.n (h : Hd) : Nat := (slotsW h).toNat
def Hd.l (h : Hd) : Nat := h.len.toNat
theorem right_nl {h : Hd} (hr : Right h) (hm : h.mode ≠ 3) (hm2 : h.mode ≠ 2) : (h.n : Int) = slotsW h ∧ (h.l : Int) = h.len ∧ 1 ≤ h.n ∧ h.n ≤ 1048576 ∧ h.l ≤ 40 := by
  have hb := hr.ok.1.bounds
  have hs := slots_ok h hr.ok
  have h1 := hs.2.2.2 hm
  have h2 := hs.2.1
  have h3 := hr.len
  unfold Hd.n Hd.l
  omega
def RanO (h : Hd) (w : World) (e : Ending) (w' : World) : Prop :=
  ∃ be D S' v, e = .returned (.tuple #[.pointer (some ⟨be, 0, none⟩), v, .bool true]) ∧ OwnsA w' w.heap.size v (Rv.rl h.l h.n) ∧ EnM w' be (enF 1) D S' false ∧ S'.mc = ⟨h.l, 0, 0, Ch.tt h.l h.n, List.replicate h.n (-1)⟩ ∧ S' = (Dy.new D).acts D (Rv.rl h.l h.n) ∧ (Dy.new D).mc = Mc.new h.l h.n ∧ KW w w'
theorem ran_off (h : Hd) (w : World) (hM : HdM w h) (hr : Right h) (hm : h.mode = 1) : Calls Tryz.prog 9 #[.agg h.v, .int .i64 0] w (RanO h w) := by
  obtain ⟨hn, hl, hn1, hn2, hl4⟩ := right_nl hr (by omega) (by omega)
  have hlen := Rv.rl_len (l := h.l) (n := h.n) (by omega) hn1
  have key : ∀ D : Ds, (∃ xA xc tA tc sA sc lA lc, D.h = h.at_ xA xc tA tc sA sc lA lc) → D.h.len.toNat = h.l ∧ D.n = h.n ∧ D.h.mode = 1 ∧ (Dy.new D).mc = Mc.new h.l h.n := by
    rintro D ⟨xA, xc, tA, tc, sA, sc, lA, lc, e⟩
    have e1 : D.h.len.toNat = h.l := by rw [e]; rfl
    have e2 : D.n = h.n := by unfold Ds.n Hd.n; rw [e]; rfl
    exact ⟨e1, e2, by rw [e]; exact hm, by rw [Dy.new_mc, e1, e2]⟩
  have hq := ran_any nxO h 0 (Rv.rl h.l h.n).length (Rv.rl h.l h.n) false w hM hr.ok (by omega) (by omega) (fun be D S b => by rw [hm]; exact nx_wk D be S b) (fun D hD hd => by
    obtain ⟨e1, e2, e3, _⟩ := key D hD
    have ho := rnt_off D 0 hd (by omega)
    rw [e1, e2, e3] at ho
    rw [hm]
    exact ⟨_, ho.1⟩)
  refine hq.mono ?_
  rintro e w1 ⟨be, D, S', v, hD, hR, rfl, ho, hE, hI, _, _, hk⟩
  obtain ⟨e1, e2, e3, e4⟩ := key D hD
  obtain ⟨rfl, _⟩ := rnt_fin nxO D _ 0 (by omega) _ _ _ _ _ _ _ hR
  have hoo := rnt_off D 0 hE.dr.ds (by omega)
  rw [e1, e2, e3] at hoo
  have hp : ((Dy.new D).acts D (Rv.rl h.l h.n)).pend = 0 := congrArg Mc.St.pend hoo.2.1
  refine ⟨be, D, _, v, by rw [hp]; rfl, ho, by rw [hm] at hE; exact hE, hoo.2.1, rfl, e4, hk⟩
theorem count_at0 (a b c d : Int) (W : World) : (Instr.field 42 (.agg #[.int .i64 a, .int .i64 b, .int .i64 c, .int .i64 d]) 0).run Tryz.prog W = .ok (.int .i64 a) W := by kernel_rfl
theorem optimal_any (h : Hd) (A : Option Addr) (c : Nat) (list : List Mc.Act) (w : World) (hM : HdM w h) (hA : Acts w A list) :
    Calls Tryz.prog 3 #[.agg h.v, .slice A list.length c] w fun e w' => e = .returned (.bool true) ∧ KW w w' := by
  have hk0 := (KW.refl w).alloc (.cells h.v 27)
  have HB := hid (boxC_new h w)
  have HRt := hid (right_top h _ (hM.kw hk0))
  have HWk := hid (fun W => wakes_any W)
  have HRn := hid (fun W (hW : KW w W) (hr : Right h) (hm : h.mode = 1) => ran_off h W (hM.kw hW) hr hm)
  have HMk := hid (fun W (hW : KW w W) => make_any h W (hM.kw hW))
  have HCk := hid (fun (hN : list.length ≤ 600) W (hW : KW w W) => check_any h.len (slotsW h) A c list W (by omega) (hA.kw hW))
  have HK0 := hid hk0
  have hkr : ∀ hr : Right h, h.mode = 1 → (h.n : Int) = slotsW h ∧ (h.l : Int) = h.len ∧ 1 ≤ h.n ∧ h.n ≤ 1048576 ∧ h.l ≤ 40 := fun hr hm => right_nl hr (by omega) (by omega)
  have HKr := hid hkr
  have HChk := hid (fun (hn : h.n ≤ 1048576) => check_does35 h.len h.n hn list)
  clear hM hA hk0 hkr
  unfold MkP at HMk
  unfold RanO at HRn
  unfold CheckP at HCk
  unfold RightR at HRt
  unfold Hd.v hdv BoxC at *
  go_enter Tryz.func3, Tryz.ntmps3
  go_wp2_with fail
  refine HRt.out.mono ?_
  rintro e w1 ⟨b, rfl, hb, hk1⟩
  obtain ⟨⟨b0, b1, b2, b3, b4, b5, b6, b7, b8⟩, hbl⟩ := HB.out w1 hk1
  have HK1 := hid (HK0.out.t hk1)
  have HKb := hid hk1
  have HRg := hid hb
  clear hk1 hb HRt
  cases b with
  | false =>
    go_wp2_with fail
    refine (HWk.out w1).mono ?_
    rintro e w2 ⟨rfl, hk2⟩
    have HK2 := hid (HK1.out.t hk2)
    clear hk2
    go_wp2_with fail
    go_ret
    exact ⟨rfl, HK2.out⟩
  | true =>
    have HRr := hid (HRg.out (by first | rfl | trivial))
    by_cases hm : h.mode = 1
    · by_cases hl : (600 : Int) < (list.length : Int)
      · have em : (h.mode != 1) = false := by simp [hm]
        clear hm
        go_wp2_with fail
        refine (HWk.out w1).mono ?_
        rintro e w2 ⟨rfl, hk2⟩
        have HK2 := hid (HK1.out.t hk2)
        clear hk2
        go_wp2_with fail
        go_ret
        exact ⟨rfl, HK2.out⟩
      · have em : (h.mode != 1) = false := by simp [hm]
        have dl : decide ((600 : Int) < (list.length : Int)) = false := decide_eq_false hl
        obtain ⟨hn, hln, hn1, hn2, hl4⟩ := HKr.out HRr.out hm
        have HRn1 := hid (HRn.out w1 HK1.out HRr.out hm)
        clear hm
        have HFc := hid (And.intro hn (And.intro hln (And.intro hn1 hn2)))
        rw [← hn] at HCk HMk
        have HCk := hid (HCk.out (by omega))
        have hChk := HChk.out hn2
        have HPl := hid HRr.out.ok
        have HL : Hid (∀ m', 0 ≤ h.len → h.len < 65536 → Mc.Does (Mc.new h.len h.n) list m' → m'.pend = 0 → Ch.tt h.l h.n ≤ m'.tot) := hid fun m' l0 l1 hd hp => (Lb.least l0 l1 hn2 hd hp).1 hn1
        clear HKr HRn HRg HRr HChk hn hln hn1 hn2 hl4 hl
        go_wp2_with fail
        refine HRn1.out.mono ?_
        rintro e w2 ⟨be, D, S', v, rfl, -, hE2, hmc, -, -, hk2⟩
        clear b0 b1 b2 b3 b4 b5 b6 b7 b8 hbl
        obtain ⟨⟨b0, b1, b2, b3, b4, b5, b6, b7, b8⟩, hbl⟩ := HB.out w2 (HKb.out.t hk2)
        have HK2 := hid (HK1.out.t hk2)
        have HKb2 := hid (HKb.out.t hk2)
        have HE2 := hid hE2
        have HTt : Hid ((S'.plain : Int) = Ch.tt h.l h.n) := hid (congrArg Mc.St.tot hmc)
        have HMk2 := hid (HMk.out w2 HK2.out)
        clear hE2 hmc hk2 HRn1 HMk
        go_wp2_with fail
        refine HMk2.out.mono ?_
        rintro e w3 ⟨x1, x2, x3, x4, r, rfl, hr0, hrx, hk3⟩
        obtain rfl : r = 0 := hr0.2 HPl.out
        obtain ⟨rfl, rfl, rfl, rfl⟩ := hrx HPl.out
        have hk3' := hk3.alloc (.cells #[.int .i64 (fixW h), .int .i64 (tapW h), .int .i64 (sltW h), .int .i64 h.n] 35)
        have hrP : (w3.alloc (.cells #[.int .i64 (fixW h), .int .i64 (tapW h), .int .i64 (sltW h), .int .i64 h.n] 35)).rowIs w3.heap.size 35 4 (fun i => [.int .i64 (fixW h), .int .i64 (tapW h), .int .i64 (sltW h), .int .i64 h.n].getD i undef) :=
          World.rowIs_alloc w3 #[.int .i64 (fixW h), .int .i64 (tapW h), .int .i64 (sltW h), .int .i64 h.n] 35 _ fun i hi => by
            simp at hi
            rcases (show i = 0 ∨ i = 1 ∨ i = 2 ∨ i = 3 by omega) with rfl | rfl | rfl | rfl <;> rfl
        have HRP := hid hrP
        obtain ⟨⟨b0', b1', b2', b3', b4', b5', b6', b7', b8'⟩, hbl'⟩ := HB.out _ (HKb2.out.t hk3')
        have HK3 := hid (HK2.out.t hk3')
        have HE3 := hid (HE2.out.kw hk3')
        have HCk3 := hid (HCk.out _ (HK2.out.t hk3'))
        clear b0 b1 b2 b3 b4 b5 b6 b7 b8 hbl hk3 hk3' hrP hrx hr0 HCk HE2 HMk2 HK2 HKb2
        go_upto_region 7 with (fail)
        generalize w3.alloc (.cells #[.int .i64 (fixW h), .int .i64 (tapW h), .int .i64 (sltW h), .int .i64 h.n] 35) = w4 at *
        have a3 := HRP.out.cell (i := 3) (by omega)
        simp only [List.getD_cons_succ, List.getD_cons_zero] at a3
        have hap := HRP.out.lt
        generalize w3.heap.size = gp at *
        go_wp2_with fail
        refine HCk3.out.mono ?_
        rintro e w5 ⟨rfl, hk5⟩
        have HE5 := hid (HE3.out.kw hk5)
        have HK5 := hid (HK3.out.t hk5)
        have HCn := hid (ecount be _ D S' false w5 HE5.out)
        clear b0' b1' b2' b3' b4' b5' b6' b7' b8' hbl' a3 hap hk5 HCk3 HE3 HK3 HRP HE5
        generalize (Mc.check h.len (↑h.n) list).2.1 = q1 at *
        rcases hChk with ⟨e0, l0, l1, m', hd, hp, et⟩ | ⟨e0, et⟩
        · have hle := HL.out m' l0 l1 hd hp
          rw [e0, et]
          have dge : (S'.plain : Int) ≤ m'.tot := by have := HTt.out; omega
          clear e0 et l0 l1 hd hp hle HL
          generalize m'.tot = tt at *
          go_wp2_with fail
          refine HCn.out.mono ?_
          rintro e w6 ⟨rfl, hk6⟩
          have HK6 := hid (HK5.out.t hk6)
          have hcn := count_at0 S'.plain S'.taped S'.losses S'.sweeps
          clear hk6
          go_wp2_with fail
          refine (HWk.out w6).mono ?_
          rintro e w7 ⟨rfl, hk7⟩
          have HK7 := hid (HK6.out.t hk7)
          clear hk7
          go_wp2_with fail
          go_ret
          exact ⟨rfl, HK7.out⟩
        · generalize (Mc.check h.len (↑h.n) list).1 = q2 at *
          generalize (Mc.check h.len (↑h.n) list).2.2 = q3 at *
          have d3 : (q3 != 0) = true := by simp [e0]
          clear e0 et
          go_wp2_with fail
          refine (HWk.out w5).mono ?_
          rintro e w7 ⟨rfl, hk7⟩
          have HK7 := hid (HK5.out.t hk7)
          clear hk7
          go_wp2_with fail
          go_ret
          exact ⟨rfl, HK7.out⟩
    · have em : (h.mode != 1) = true := by simp [hm]
      go_wp2_with fail
      refine (HWk.out w1).mono ?_
      rintro e w2 ⟨rfl, hk2⟩
      have HK2 := hid (HK1.out.t hk2)
      clear hk2
      go_wp2_with fail
      go_ret
      exact ⟨rfl, HK2.out⟩
end Go.Proofs.YtphppbonljdibaaGreat
namespace Go.Proofs.YtphppbonljdibaaGreat
open Go.ChangeShapes Go.WideShapes Go.ChangeAt Go.RowKit Go.Joins
theorem own : ownKnob Tryz.prog.godebug = none := by kernel_rfl
theorem laidOut : laidOutB Tryz.prog = true := by kernel_rfl
section
variable {H : Type} {enc : TypeId × Value → H} {P : Program}
theorem trodAll_stays (hl : laidOutB P = true) {W W' : World} (hb : Below W.heap.size W W') : ∀ (ts : List TypeId) (vs : List Value) (ds : List (DataW H)) (p : List MemPlace),
    (ts.all fun t => P.readableRec t && decide (t < P.types.size)) = true → DataW.TrodAll enc P W 0 (fun _ => true) true ts vs ds p → (∀ x ∈ p, x.block < W.heap.size) →
    DataW.TrodAll enc P W' 0 (fun b => decide (b < W.heap.size)) true ts vs ds p := by
  intro ts
  induction ts with
  | nil =>
    intro vs ds p _ h _
    obtain ⟨rfl, rfl, rfl⟩ := trodAll_nil h
    exact trodAll_mk0
  | cons t ts ih =>
    intro vs ds p hr h hlt
    obtain ⟨v, vs', d, ds', q, q', rfl, rfl, rfl, h0, h1⟩ := trodAll_cons h
    simp only [List.all_cons, Bool.and_eq_true, decide_eq_true_eq] at hr
    exact trodAll_cons_mk (Below.trod hl hr.1.1 hr.1.2 h0 hb fun x hx => hlt x (List.mem_append_left _ hx)) (ih _ _ _ hr.2 h1 fun x hx => hlt x (List.mem_append_right _ hx))
theorem law_post {f : Func} {s : ChangeSpec} {b : TypeId} {W W' : World} {args : Array Value} {ds gs : List (DataW H)} {before : List MemPlace} (hl : laidOutB P = true)
    (hr : (f.params.toList.all fun t => P.readableRec t && decide (t < P.types.size)) = true) (hW : DataW.Whole enc P f.params.toList s.vars false W args.toList ds gs before) (hv : s.vars = [])
    (hfn : gs = [] → s.fn H (ds ++ gs) = { results := [.lit (.bool true)], args := ds }) (hres : f.resultTypes = #[b]) (hbool : P.underlying b = some .bool) (hb : Below W.heap.size W W') :
    s.post enc P f false true false false W args (.bool true) W' := by
  have hlt : ∀ x ∈ before, x.block < W.heap.size := fun x hx => hW.lt x hx
  have hW' := hW
  obtain ⟨p, q, hA, hV, rfl, _, _⟩ := hW
  rw [hv] at hV
  obtain ⟨rfl, rfl⟩ := trodVars_none hV
  refine ⟨ds, [], _, [], p, [], hW', ?_, ?_, ?_, hb.frame _, fun h => by cases h⟩
  · rw [hfn rfl, hres]
    exact trodAll_mk1 (shut_bool hbool true)
  · rw [hfn rfl]
    exact trodAll_stays hl hb _ _ _ _ hr hA fun x hx => hlt x (List.mem_append_left _ hx)
  · rw [hfn rfl, hv]
    rfl
end
end Go.Proofs.YtphppbonljdibaaGreat
namespace Go.Proofs.YtphppbonljdibaaGreat
open Go.ChangeShapes Go.WideShapes Go.ChangeAt Go.RowKit Go.Joins Go.Deep
theorem open_acts {H : Type} {enc : TypeId × Value → H} {W : World} {v : Value} {d : DataW H} {p : List MemPlace} (hs : ∃ a n c, v = .slice a n c) (h : DataW.Trod enc Tryz.prog W 0 (fun _ => true) true 28 v d p) :
    ∃ (A : Option Addr) (c : Nat) (l : List Mc.Act), v = .slice A l.length c ∧ l.length ≤ 9223372036854775807 ∧ (∀ a ∈ l, (-9223372036854775808 ≤ a.1 ∧ a.1 ≤ 9223372036854775807) ∧ -9223372036854775808 ≤ a.2 ∧ a.2 ≤ 9223372036854775807) ∧ Acts W A l := by
  obtain ⟨a0, n0, c0, rfl⟩ := hs
  obtain ⟨fuel, hf⟩ := h
  rcases open_slice_pairs (P := Tryz.prog) Tryz.underlying28 Tryz.underlying55 (by kernel_rfl) (by kernel_rfl) (by kernel_rfl) (by kernel_rfl) (by kernel_rfl) hf with ⟨hcs, _⟩ | ⟨a, len, cap, m, n, V0, V1, D0, D1, P0, P1, hcs, _, hl, hm, hmm, _, hx⟩
  · simp [Value.cells] at hcs
    obtain ⟨rfl, rfl, rfl⟩ := hcs
    exact ⟨none, 0, [], rfl, by simp, fun k hk => by simp at hk, fun h => by simp at h⟩
  · simp [Value.cells] at hcs
    obtain ⟨rfl, rfl, rfl⟩ := hcs
    unfold maxLen at hm
    have hlen : n0 ≤ m := by rw [hmm]; split <;> omega
    have each : ∀ k, k < n0 → V0 k = .int .i64 (intOf (V0 k)) ∧ V1 k = .int .i64 (intOf (V1 k)) ∧ (-9223372036854775808 ≤ intOf (V0 k) ∧ intOf (V0 k) ≤ 9223372036854775807) ∧ -9223372036854775808 ≤ intOf (V1 k) ∧ intOf (V1 k) ≤ 9223372036854775807 := by
      intro k hk
      obtain ⟨_, _, h0, h1⟩ := hx k (by omega)
      obtain ⟨x, e0, _, wx⟩ := DataW.trod_int Tryz.underlying3 h0
      obtain ⟨y, e1, _, wy⟩ := DataW.trod_int Tryz.underlying3 h1
      simp at e0 e1
      rw [e0, e1]
      have bx : -9223372036854775808 ≤ x ∧ x ≤ 9223372036854775807 := by simpa [Lit.wf, IntKind.min, IntKind.max, IntKind.signed, IntKind.bits] using wx
      have yb : -9223372036854775808 ≤ y ∧ y ≤ 9223372036854775807 := by simpa [Lit.wf, IntKind.min, IntKind.max, IntKind.signed, IntKind.bits] using wy
      exact ⟨rfl, rfl, bx, yb⟩
    have hL : ((List.range n0).map fun k => (intOf (V0 k), intOf (V1 k))).length = n0 := by simp
    refine ⟨some a, c0, (List.range n0).map fun k => (intOf (V0 k), intOf (V1 k)), by rw [hL], by rw [hL]; omega, fun x hx => ?_, fun hp => ?_⟩
    · obtain ⟨k, hk, rfl⟩ := List.mem_map.1 hx
      have := each k (by simpa using hk)
      exact ⟨this.2.2.1, this.2.2.2⟩
    · rw [hL] at hp
      obtain ⟨b, off, spot⟩ := a
      have h00 := (hx 0 (by omega)).1
      have hspot : spot = none := by simpa [Addr.add] using World.cell?_spot h00
      subst hspot
      refine ⟨b, off, rfl, World.block_lt_of_cell? W _ (by simpa using h00), fun k hk => ?_⟩
      rw [hL] at hk
      obtain ⟨q0, q1, _, _⟩ := hx k (by omega)
      rw [(each k hk).1] at q0
      rw [(each k hk).2.1] at q1
      rw [Go.WideShapes.add_plain] at q0 q1
      have e : ((List.range n0).map fun k => (intOf (V0 k), intOf (V1 k))).getD k (0, 0) = (intOf (V0 k), intOf (V1 k)) := by simp [hk]
      rw [e]
      exact ⟨q0, by rw [Nat.add_assoc]; exact q1⟩
theorem bulkAll_len {H : Type} (l : List (DataW H)) : l.length ≤ Rows.uptoBulkAll l := by
  induction l with
  | nil => exact Nat.zero_le _
  | cons x r ih =>
    have h1 : 1 ≤ Rows.uptoBulk x := by
      cases x with
      | lit l => cases l <;> simp [Rows.uptoBulk]
      | _ => simp [Rows.uptoBulk]
    simp only [Rows.uptoBulkAll, List.length_cons]
    omega
theorem bulk_slice {H : Type} (elems spare : List (DataW H)) : elems.length + 1 ≤ Rows.uptoBulk (.slice elems spare) := by
  have h1 := bulkAll_len elems
  simp only [Rows.uptoBulk]
  omega
section
variable {H : Type} {enc : TypeId × Value → H} {W : World}
theorem trod_u64l {fuel : Nat} {v : Value} {x : DataW H × List MemPlace} (h : DataW.trod enc Tryz.prog W 0 (fun _ => true) true fuel 22 [v] = some x) (hk : Rows.uptoBulk x.1 ≤ 1048576) :
    ∃ (A : Option Addr) (c : Nat) (l : List Int), v = .slice A l.length c ∧ l.length ≤ 1048576 ∧ (A = none → l.length = 0 ∧ c = 0) ∧ Row1 W A l.length fun i => .int .u64 (l.getD i 0) := by
  rcases open_ints Tryz.underlying22 Tryz.underlying81 (by kernel_rfl) h with ⟨hcs, _⟩ | ⟨a, len, cap, zs, hcs, _, hl, hm, hz, hx0, hx, hw⟩
  · simp at hcs
    subst hcs
    exact ⟨none, 0, [], rfl, by simp, fun _ => ⟨rfl, rfl⟩, fun h => by simp at h⟩
  · simp at hcs
    subst hcs
    subst hx0
    unfold maxLen at hm
    have hlen : len ≤ zs.length := by rw [hz]; split <;> omega
    have hL : (zs.take len).length = len := by simp; omega
    have hb := bulk_slice (H := H) (lits .u64 (zs.take len)) (lits .u64 (zs.drop len))
    have hll : (lits (H := H) .u64 (zs.take len)).length = len := by unfold lits; rw [List.length_map, hL]
    have hk' : Rows.uptoBulk (DataW.slice (H := H) (lits .u64 (zs.take len)) (lits .u64 (zs.drop len))) ≤ 1048576 := hk
    refine ⟨some a, cap, zs.take len, by rw [hL], by rw [hL]; omega, (fun h => by cases h), fun hp => ?_⟩
    rw [hL] at hp
    obtain ⟨b, off, rfl, hc⟩ := ints_at hx (by omega)
    refine ⟨b, off, rfl, World.block_lt_of_cell? W _ (hc 0 (by omega)), fun k hk => ?_⟩
    rw [hL] at hk
    have e : (zs.take len).getD k 0 = zs.getD k 0 := by
      rw [List.getD_eq_getElem?_getD, List.getD_eq_getElem?_getD, List.getElem?_take_of_lt hk]
    show _ = some (Value.int .u64 ((zs.take len).getD k 0))
    rw [e]
    exact hc k (by omega)
theorem trod_ops {fuel : Nat} {v : Value} {x : DataW H × List MemPlace} (h : DataW.trod enc Tryz.prog W 0 (fun _ => true) true fuel 23 [v] = some x) (hk : Rows.uptoBulk x.1 ≤ 1048576) :
    ∃ (A : Option Addr) (c : Nat) (l : List Fl.O), v = .slice A l.length c ∧ l.length ≤ 1048576 ∧ OpsM W A l ∧ ∀ o, o ∈ l → 0 ≤ o.v ∧ o.v < 18446744073709551616 := by
  have ce : Tryz.prog.cellsOf 83 = 5 := by kernel_rfl
  rcases open_slice Tryz.underlying23 h with ⟨hcs, _⟩ | ⟨a, len, cap, m, n, D, Pl, hcs, _, hl, hm, hmm, hx0, hx⟩
  · simp at hcs
    subst hcs
    exact ⟨none, 0, [], rfl, by simp, fun h => by simp at h, fun o h => by simp at h⟩
  · simp at hcs
    subst hcs
    subst hx0
    have hlm : len ≤ m := by rw [hmm]; split <;> omega
    have hb := bulk_slice (H := H) ((List.range len).map D) ((List.range (m - len)).map fun j => D (len + j))
    rw [List.length_map, List.length_range] at hb
    have hk' : Rows.uptoBulk (DataW.slice (H := H) ((List.range len).map D) ((List.range (m - len)).map fun j => D (len + j))) ≤ 1048576 := hk
    have each : ∀ i, i < m → ∃ o : Fl.O, W.cell? (a.add (i * 5)) = some (.int .i64 o.k) ∧ W.cell? (a.add (i * 5 + 1)) = some (.int .i64 o.d) ∧ W.cell? (a.add (i * 5 + 2)) = some (.int .i64 o.a) ∧ W.cell? (a.add (i * 5 + 3)) = some (.int .i64 o.b) ∧ W.cell? (a.add (i * 5 + 4)) = some (.int .u64 o.v) ∧ 0 ≤ o.v ∧ o.v < 18446744073709551616 := by
      intro i hi
      obtain ⟨cs', h1, h2⟩ := hx i hi
      rw [ce] at h1
      obtain ⟨_, hlen, hcell⟩ := World.cells?_some h1
      obtain ⟨xs, k, _, hxy, _, hxl, hf⟩ := DataW.trod_struct Tryz.underlying83 h2
      match xs, hxl, cs', hlen with
      | [y0, y1, y2, y3, y4], _, [v0, v1, v2, v3, v4], _ =>
        have g0 := hf 0 _ rfl
        have g1 := hf 1 _ rfl
        have g2 := hf 2 _ rfl
        have g3 := hf 3 _ rfl
        have g4 := hf 4 _ rfl
        have c1 : Tryz.prog.cellsOf 3 = 1 := by kernel_rfl
        have c2 : Tryz.prog.cellsOf 81 = 1 := by kernel_rfl
        simp [c1, c2] at g0 g1 g2 g3 g4
        obtain ⟨z0, e0, _, w0⟩ := DataW.trod_int Tryz.underlying3 g0
        obtain ⟨z1, e1, _, w1⟩ := DataW.trod_int Tryz.underlying3 g1
        obtain ⟨z2, e2, _, w2⟩ := DataW.trod_int Tryz.underlying3 g2
        obtain ⟨z3, e3, _, w3⟩ := DataW.trod_int Tryz.underlying3 g3
        obtain ⟨z4, e4, _, w4⟩ := DataW.trod_int Tryz.underlying81 g4
        simp at e0 e1 e2 e3 e4
        subst e0 e1 e2 e3 e4
        have k0 := hcell 0 (by omega)
        have k1 := hcell 1 (by omega)
        have k2 := hcell 2 (by omega)
        have k3 := hcell 3 (by omega)
        have k4 := hcell 4 (by omega)
        rw [add_add] at k0 k1 k2 k3 k4
        have hz : 0 ≤ z4 ∧ z4 ≤ 18446744073709551615 := by simpa [Lit.wf, IntKind.min, IntKind.max, IntKind.signed, IntKind.bits] using w4
        exact ⟨⟨z0, z1, z2, z3, z4⟩, by simpa using k0, by simpa using k1, by simpa using k2, by simpa using k3, by simpa using k4, hz.1, by have := hz.2; show z4 < _; omega⟩
    haveI : Inhabited Fl.O := ⟨Fl.o0⟩
    obtain ⟨q, hq⟩ := choose_lt each
    have hL : ((List.range len).map q).length = len := by simp
    refine ⟨some a, cap, (List.range len).map q, by rw [hL], by rw [hL]; omega, fun hp => ?_, fun o ho => ?_⟩
    · rw [hL] at hp
      obtain ⟨b, off, spot⟩ := a
      have h00 := (hq 0 (by omega)).1
      have hspot : spot = none := by simpa [Addr.add] using World.cell?_spot h00
      subst hspot
      refine ⟨b, off, rfl, World.block_lt_of_cell? W _ (by simpa using h00), fun k hk => ?_⟩
      rw [hL] at hk
      have e : ((List.range len).map q).getD k Fl.o0 = q k := by simp [hk]
      rw [e]
      obtain ⟨q0, q1, q2, q3, q4, _⟩ := hq k (by omega)
      rw [Go.WideShapes.add_plain] at q0 q1 q2 q3 q4
      exact ⟨q0, by rw [Nat.add_assoc]; exact q1, by rw [Nat.add_assoc]; exact q2, by rw [Nat.add_assoc]; exact q3, by rw [Nat.add_assoc]; exact q4⟩
    · obtain ⟨k, hk, rfl⟩ := List.mem_map.1 ho
      have := hq k (by have : k < len := by simpa using hk
                       omega)
      exact this.2.2.2.2.2
theorem trod_pg {fuel : Nat} {v w : Value} {x : DataW H × List MemPlace} (h : DataW.trod enc Tryz.prog W 0 (fun _ => true) true fuel 25 [v, w] = some x) (hk : Rows.uptoBulk x.1 ≤ 1048576) :
    ∃ p : Pg, v = .int .i64 p.n ∧ w = .slice p.A p.l.length p.c ∧ PgM W p := by
  obtain ⟨xs, k, _, hxy, _, hxl, hf⟩ := DataW.trod_struct Tryz.underlying25 h
  match xs, hxl with
  | [y0, y1], _ =>
    have g0 := hf 0 _ rfl
    have g1 := hf 1 _ rfl
    have c1 : Tryz.prog.cellsOf 3 = 1 := by kernel_rfl
    have c2 : Tryz.prog.cellsOf 23 = 1 := by kernel_rfl
    simp [c1, c2] at g0 g1
    subst hxy
    simp only [List.map_cons, List.map_nil, Rows.uptoBulkAll, Rows.uptoBulk] at hk
    obtain ⟨z0, e0, _, w0⟩ := DataW.trod_int Tryz.underlying3 g0
    simp at e0
    subst e0
    obtain ⟨A, c, l, rfl, hl, hO, hv⟩ := trod_ops g1 (by omega)
    exact ⟨⟨z0, A, c, l⟩, rfl, rfl, hO, hl, hv⟩
theorem open_header {r : Reach} {b0 : Nat} {v : Value} {d : DataW H} {p : List MemPlace} (hv : Value.okWide Tryz.prog W r b0 27 v) (h : DataW.Trod enc Tryz.prog W 0 (fun _ => true) true 27 v d p) (hk : Rows.uptoBulk d ≤ 1048576) :
    ∃ h : Hd, v = .agg h.v ∧ HdM W h := by
  obtain ⟨cs, rfl, hsz⟩ := okWide_struct Tryz.underlying27 hv
  have hC : Tryz.prog.cellsOf 27 = 9 := by kernel_rfl
  rw [hC] at hsz
  obtain ⟨l⟩ := cs
  match l, hsz with
  | [v0, v1, v2, v3, v4, v5, v6, v7, v8], _ =>
    obtain ⟨fuel, hf0⟩ := h
    obtain ⟨xs, k, _, hxy, _, hxl, hf⟩ := DataW.trod_struct Tryz.underlying27 hf0
    match xs, hxl with
    | [y0, y1, y2, y3, y4, y5, y6], _ =>
      have g0 := hf 0 _ rfl
      have g1 := hf 1 _ rfl
      have g2 := hf 2 _ rfl
      have g3 := hf 3 _ rfl
      have g4 := hf 4 _ rfl
      have g5 := hf 5 _ rfl
      have g6 := hf 6 _ rfl
      have c1 : Tryz.prog.cellsOf 3 = 1 := by kernel_rfl
      have c2 : Tryz.prog.cellsOf 22 = 1 := by kernel_rfl
      have c3 : Tryz.prog.cellsOf 25 = 2 := by kernel_rfl
      simp [c1, c2, c3, Value.cells] at g0 g1 g2 g3 g4 g5 g6
      simp only [Prod.mk.injEq] at hxy
      obtain ⟨rfl, _⟩ := hxy
      simp only [List.map_cons, List.map_nil, Rows.uptoBulkAll, Rows.uptoBulk] at hk
      obtain ⟨z0, e0, _, _⟩ := DataW.trod_int Tryz.underlying3 g0
      obtain ⟨z5, e5, _, _⟩ := DataW.trod_int Tryz.underlying3 g5
      obtain ⟨z6, e6, _, _⟩ := DataW.trod_int Tryz.underlying3 g6
      simp at e0 e5 e6
      subst e0 e5 e6
      obtain ⟨xA, xc, xl, rfl, xn, x0, xr⟩ := trod_u64l g1 (by omega)
      obtain ⟨tA, tc, tl, rfl, tn, t0, tr⟩ := trod_u64l g2 (by omega)
      obtain ⟨ps, rfl, rfl, hs⟩ := trod_pg g3 (by omega)
      obtain ⟨pl, rfl, rfl, hl⟩ := trod_pg g4 (by omega)
      exact ⟨⟨z0, xA, xc, xl, tA, tc, tl, ps, pl, z5, z6⟩, rfl, hs, hl, xr, tr, xn, tn, x0, t0⟩
end
end Go.Proofs.YtphppbonljdibaaGreat
namespace Go.Proofs.YtphppbonljdibaaGreat
open Go.ChangeShapes Go.WideShapes Go.ChangeAt Go.RowKit Go.Joins
theorem optimal35_contract (H : Type) (enc : TypeId × Value → H) (W : World) (base : Nat) (args : Array Value) (ds gs : List (DataW H)) (before : List MemPlace)
    (hval : ∀ (j : Nat) t v, Tryz.f3.params[j]? = some t → args[j]? = some v → Value.okWide Tryz.prog W .any base t v)
    (hW : DataW.Whole enc Tryz.prog Tryz.f3.params.toList Rows.topOptimalSpec.vars false W args.toList ds gs before) (hk : Rows.uptoSmall H (ds ++ gs) = true) :
    Calls Tryz.prog 3 args W fun e W' => ∃ v, e = .returned v ∧ Rows.topOptimalSpec.post enc Tryz.prog Tryz.f3 false true false false W args v W' := by
  have hW' := hW
  obtain ⟨p, q, hA0, hV, rfl, hfz, hnd⟩ := hW
  have hA : DataW.TrodAll enc Tryz.prog W 0 (fun _ => true) true Tryz.f3.params.toList args.toList ds p := hA0
  rw [Tryz.params3] at hA hval
  obtain ⟨v0, vs0, d0, ds0, p0, q0, hargs, rfl, rfl, h0, r0⟩ := trodAll_cons hA
  obtain ⟨v1, vs1, d1, ds1, p1, q1, rfl, rfl, rfl, h1, r1⟩ := trodAll_cons r0
  obtain ⟨rfl, rfl, rfl⟩ := trodAll_nil r1
  obtain rfl : args = #[v0, v1] := by cases args; simp_all
  have hb : Rows.uptoBulkAll ([d0, d1] ++ gs) ≤ 1048576 := of_decide_eq_true hk
  simp only [List.cons_append, List.nil_append, Rows.uptoBulkAll] at hb
  obtain ⟨x0, rfl, hm0⟩ := open_header (hval 0 27 v0 rfl rfl) h0 (by omega)
  obtain ⟨A1, c1, l1, rfl, hn1, hb1, hr1⟩ := open_acts (by obtain ⟨a, n, c, h⟩ := okWide_slice Tryz.underlying28 (hval 1 28 v1 rfl rfl); exact ⟨a, n, c, h⟩) h1
  refine (optimal_any x0 A1 c1 l1 W hm0 hr1).mono fun e W' ⟨he, hb⟩ => ?_
  subst he
  exact ⟨_, rfl, law_post laidOut (by kernel_rfl) hW' rfl (fun h => by subst h; rfl) (by kernel_rfl) Tryz.underlying4 hb⟩
theorem optimal35_lifted (os : Os) (started : os.Started) (H : Type) (enc : TypeId × Value → H) (F : Stop.Interp) :
    ReturnsInHanded {} Tryz.checked os 3 .any ((Rows.OpenSpec.upto Rows.topOptimalSpec).pre6 enc Tryz.prog Tryz.f3 Rows.topOptimalUptoRow.domain false) (((Rows.OpenSpec.upto Rows.topOptimalSpec).at F).post enc Tryz.prog Tryz.f3 false true false false) := by
  refine returnsInHanded_of_cond (C := Tryz.checked) (s := Rows.OpenSpec.upto Rows.topOptimalSpec) (k := Rows.uptoSmall) rfl own started (by kernel_rfl) Tryz.func3
    (OpenSpec.witness (enc := enc) (C := Tryz.checked) (s := Rows.OpenSpec.upto Rows.topOptimalSpec) (k := Rows.uptoSmall) rfl false ⟨#[], #[.agg #[.int .i64 0, .slice none 0 0, .slice none 0 0, .int .i64 0, .slice none 0 0, .int .i64 0, .slice none 0 0, .int .i64 0, .int .i64 0], .slice none 0 0], []⟩ 8 (by kernel_rfl) (by kernel_rfl) (by kernel_rfl)
      (x := ([.agg [.lit (.int .i64 0), .nil, .nil, .agg [.lit (.int .i64 0), .nil], .agg [.lit (.int .i64 0), .nil], .lit (.int .i64 0), .lit (.int .i64 0)], .nil], [], [])) (by kernel_rfl) rfl (by kernel_rfl)) ?_
  intro W base args ds gs before hval hW _ hk _
  exact optimal35_contract H enc W base args ds gs before hval hW hk
theorem optimal35_holds : Rows.TopOptimalUptoSaid :=
  OpenClaim.holds_of_cond 3 Tryz.f3 rfl rfl rfl rfl rfl rfl rfl ⟨rfl, rfl, rfl, rfl, rfl⟩ rfl rfl rfl rfl rfl (by kernel_rfl) Tryz.func3 (by kernel_rfl)
    (of_decide_eq_true (by kernel_rfl)) (by unfold Func.isWrapper; first | (rw [if_pos (by decide +kernel)]; kernel_rfl) | (rw [if_neg (by decide +kernel)]; exact ⟨rfl, rfl⟩))
    (fun os started H enc _ F => optimal35_lifted os started H enc F)
end Go.Proofs.YtphppbonljdibaaGreat
