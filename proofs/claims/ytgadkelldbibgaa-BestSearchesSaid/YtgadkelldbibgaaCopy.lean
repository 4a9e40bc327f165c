/- copy into a block of the call's own; math/bits.Mul of small numbers; slices.Repeat of one, slices.Clone. -/
import Derived.Test.YtgadkelldbibgaaKeep
import Derived.Laws.CopyOwn
import Derived.Shelf.Bits.Mul64
import Derived.Lib.SliceRun
namespace Go.Proofs.Ytgadkelldbibgaa
open Go.ChangeShapes Go.WideShapes Go.ChangeAt Go.RowKit
set_option linter.unusedVariables false

section
variable {P : Program} {ops : Array Oper} {Q : Exit → Act → World → Prop}
theorem wp_copy_is {o : Oper} {a : Act} {K : Act → World → Prop} {w : World} {d s : Operand} {dT sT elem : TypeId} (ho : o.op = .call { callee := .builtin .copy, args := #[d, s], argTypes := #[dT, sT] }) (hu : P.underlying dT = some (.slice elem)) (hsz : (P.info? elem).map (·.size) = some 1)
    {g off dLen dCap sLen sCap N m : Nat} {ad : Addr} {t : TypeId} {f h : Nat → Value} (hd : a.eval d = .slice (some ⟨g, off, none⟩) dLen dCap) (hs : a.eval s = .slice (some ad) sLen sCap) (hg : w.rowIs g t N f)
    (hm : m = min sLen dLen) (hsrc : ∀ j, j < m → w.cell? (ad.add j) = some (h j)) (hfit : off + m ≤ N) (h1 : ∀ j, j < m → (h j).oneCell' = true)
    (hK : ∀ W, W.rowIs g t N (fun i => if off ≤ i ∧ i < off + m then h (i - off) else f i) → Keep (· = g) w W → K (a.put o.dst (.int .i64 m)) W) : o.wp P a w K Q := by
  obtain ⟨c, hb, hn, hc⟩ := hg
  have hrun := run_copy_row (P := P) w dT sT o.type elem g off dLen dCap ad sLen sCap c t ((List.range m).map h) hu hsz hb (by simp; omega) (fun j v hj => by
    have hlt : j < m := by have := (List.getElem?_eq_some_iff.1 hj).1; simpa using this
    rw [hsrc j hlt]
    simp [hlt] at hj
    rw [hj]) (by simp; omega) (fun v hv => by
    obtain ⟨j, hj, rfl⟩ := List.mem_map.1 hv
    exact h1 j (by simpa using hj))
  unfold Oper.wp
  simp [execOp, ho, resolve, invoke, builtin, hd, hs, hrun, Result.andThen]
  have e : goInt m = .int .i64 m := rfl
  rw [e]
  refine hK _ ⟨_, setRow_heap w g c _ t _ hb, by simp; omega, fun i hi => ?_⟩ ((Keep.refl _ w).setRow g _ rfl)
  simp only [List.getElem?_toArray, List.getElem?_append, List.length_take, List.length_map, List.length_range, Array.length_toList]
  have emin : min off c.size = off := by omega
  rw [emin]
  by_cases h2 : i < off
  · rw [if_pos h2, if_neg (by omega), List.getElem?_take_of_lt h2]
    simpa using hc i hi
  · rw [if_neg h2]
    by_cases h3 : i < off + m
    · rw [if_pos (by omega), if_pos ⟨by omega, h3⟩]
      simp [show i - off < m by omega]
    · rw [if_neg (by omega), if_neg (by omega), List.getElem?_drop, show off + m + (i - off - m) = i from by omega]
      simpa using hc i hi
theorem wpList_copy_is {rest : List Oper} {o : Oper} {a : Act} (hgd : o.guard = none) {w : World} {d s : Operand} {dT sT elem : TypeId} (ho : o.op = .call { callee := .builtin .copy, args := #[d, s], argTypes := #[dT, sT] }) (hu : P.underlying dT = some (.slice elem)) (hsz : (P.info? elem).map (·.size) = some 1)
    {g off dLen dCap sLen sCap N m : Nat} {ad : Addr} {t : TypeId} {f h : Nat → Value} (hd : a.eval d = .slice (some ⟨g, off, none⟩) dLen dCap) (hs : a.eval s = .slice (some ad) sLen sCap) (hg : w.rowIs g t N f)
    (hm : m = min sLen dLen) (hsrc : ∀ j, j < m → w.cell? (ad.add j) = some (h j)) (hfit : off + m ≤ N) (h1 : ∀ j, j < m → (h j).oneCell' = true)
    (hK : ∀ W, W.rowIs g t N (fun i => if off ≤ i ∧ i < off + m then h (i - off) else f i) → Keep (· = g) w W → wpList P ops Q rest (a.put o.dst (.int .i64 m)) W) : wpList P ops Q (o :: rest) a w :=
  wpList_plain hgd fun _ hK' => wp_copy_is ho hu hsz hd hs hg hm hsrc hfit h1 fun W h2 h3 => hK' _ _ (hK W h2 h3)
theorem wpX_copy_is {md : Region.Mode} {S : World → Prop} {L k dd q : Nat} {l : Array Bool} {ts : List Value} {ds : List Deferred} {o : Oper} (hr : Region.ready md ops l = [k]) (hok : ops[k]? = some o) (hdst : o.dst = some dd) (hgd : o.guard = none)
    {w : World} {d s : Operand} {dT sT elem : TypeId} (ho : o.op = .call { callee := .builtin .copy, args := #[d, s], argTypes := #[dT, sT] }) (hu : P.underlying dT = some (.slice elem)) (hsz : (P.info? elem).map (·.size) = some 1)
    {g off dLen dCap sLen sCap N m : Nat} {ad : Addr} {t : TypeId} {f h : Nat → Value} (hd : (Act.mk ts.toArray ds).eval d = .slice (some ⟨g, off, none⟩) dLen dCap) (hs : (Act.mk ts.toArray ds).eval s = .slice (some ad) sLen sCap) (hg : w.rowIs g t N f)
    (hm : m = min sLen dLen) (hsrc : ∀ j, j < m → w.cell? (ad.add j) = some (h j)) (hfit : off + m ≤ N) (h1 : ∀ j, j < m → (h j).oneCell' = true)
    (hK : ∀ W, W.rowIs g t N (fun i => if off ≤ i ∧ i < off + m then h (i - off) else f i) → Keep (· = g) w W → (k ≠ L → S W) ∧ wpX P md ops Q S L q (l.setIfInBounds k true) ⟨(ts.set dd (.int .i64 m)).toArray, ds⟩ W) : wpX P md ops Q S L (q + 1) l ⟨ts.toArray, ds⟩ w := by
  refine wpX_hard hr hok fun K hK' => ?_
  rw [if_pos (by simp [Region.wanted, hgd])]
  refine wp_copy_is ho hu hsz hd hs hg hm hsrc hfit h1 fun W h2 h3 => ?_
  obtain ⟨h4, h5⟩ := hK W h2 h3
  rw [hdst]
  refine hK' _ _ h4 ?_
  simpa [Act.put] using h5
end

set_option maxHeartbeats 1000000 in
theorem rmul64_any (x y : Nat) (hx : x < 18446744073709551616) (hy : y < 18446744073709551616) (w : World) :
    Calls Try.prog 112 #[.int .u64 x, .int .u64 y] w fun e w' => e = .returned (.tuple #[.int .u64 ((x * y / 18446744073709551616 : Nat) : Int), .int .u64 ((x * y % 18446744073709551616 : Nat) : Int)]) ∧ w = w' := by
  obtain ⟨bd, bt, bw, hhi⟩ := Lib.mul64_hi x y hx hy
  have ba := Lib.half_mul_le (a := x / 4294967296) (b := y / 4294967296) (by omega) (by omega)
  have bb := Lib.half_mul_le (a := x / 4294967296) (b := y % 4294967296) (by omega) (by omega)
  have bc := Lib.half_mul_le (a := x % 4294967296) (b := y / 4294967296) (by omega) (by omega)
  have ba' : x / 4294967296 * (y / 4294967296) < 18446744073709551616 := by omega
  have bb' : x / 4294967296 * (y % 4294967296) < 18446744073709551616 := by omega
  have bc' : x % 4294967296 * (y / 4294967296) < 18446744073709551616 := by omega
  have bh1 : x / 4294967296 * (y / 4294967296) + (x / 4294967296 * (y % 4294967296) + x % 4294967296 * (y % 4294967296) / 4294967296) / 4294967296 < 18446744073709551616 := by omega
  have bh : x / 4294967296 * (y / 4294967296) + (x / 4294967296 * (y % 4294967296) + x % 4294967296 * (y % 4294967296) / 4294967296) / 4294967296 + ((x / 4294967296 * (y % 4294967296) + x % 4294967296 * (y % 4294967296) / 4294967296) % 4294967296 + x % 4294967296 * (y / 4294967296)) / 4294967296 < 18446744073709551616 := by omega
  go_enter Try.func112, Try.ntmps112
  go_wp2
  simp only [Mul64.maskN x hx, Mul64.maskN y hy, Mul64.divN, Mul64.mulN, Mul64.addN, Mul64.wrapN _ bd, Mul64.wrapN _ bb', Mul64.wrapN _ bt, Mul64.maskN _ bt, Mul64.wrapN _ bc', Mul64.wrapN _ bw, Mul64.wrapN _ ba', Mul64.wrapN _ bh1, Mul64.wrapN _ bh, Mul64.wrapM (x * y)]
  rw [hhi]
  go_ret2
  exact ⟨rfl, rfl⟩
theorem rmul64_one (n : Int) (w : World) (h0 : 0 ≤ n) (h1 : n ≤ 9223372036854775807) :
    Calls Try.prog 112 #[.int .u64 1, .int .u64 n] w fun e w' => e = .returned (.tuple #[.int .u64 0, .int .u64 n]) ∧ w = w' := by
  obtain ⟨y, rfl⟩ : ∃ y : Nat, n = y := ⟨n.toNat, by omega⟩
  have h := rmul64_any 1 y (by omega) (by omega) w
  rw [show ((1 * y / 18446744073709551616 : Nat) : Int) = 0 from by omega, show ((1 * y % 18446744073709551616 : Nat) : Int) = (y : Int) from by omega] at h
  exact h
theorem rmul_one (n : Int) (w : World) (h0 : 0 ≤ n) (h1 : n ≤ 9223372036854775807) :
    Calls Try.prog 91 #[.int .u64 1, .int .u64 n] w fun e w' => e = .returned (.tuple #[.int .u64 0, .int .u64 n]) ∧ w = w' := by
  go_enter Try.func91, Try.ntmps91
  go_wp2_with (go_at_call 112; refine (rmul64_one n _ h0 h1).mono ?_; rintro e w1 ⟨rfl, rfl⟩)
  go_ret2
  exact ⟨rfl, rfl⟩

def RepP (w : World) (n : Nat) (e : Ending) (w' : World) : Prop := ∃ tb, e = .returned (.slice (some ⟨tb, 0, none⟩) n n) ∧ w.heap.size < tb ∧ w'.rowIs tb 3 n (fun _ => .int .i64 (-1)) ∧ KW w w'
set_option maxHeartbeats 1000000 in
theorem repeat_any (n : Nat) (w : World) (hn : n ≤ 1048576) :
    Calls Try.prog 53 #[.slice (some ⟨w.heap.size, 0, none⟩) 1 1, .int .i64 n] (w.alloc (.cells #[.int .i64 (-1)] 3)) (RepP w n) := by
  have hmk := fun W => run_make_row' (P := Try.prog) 22 3 (.int .i64 0) 8 Try.underlying22 (by kernel_rfl) rfl .i64 .i64 n (by omega) (by omega) W
  have HM := hid (fun W => rmul_one n W (by omega) (by omega))
  have d1 : decide (n < 0) = false := by simp
  have d2 : decide ((n : Int) < 0) = false := by simp
  have d3 : decide ((9223372036854775807 : Int) < (n : Int)) = false := by simp; omega
  have HR : Hid (((w.alloc (.cells #[.int .i64 (-1)] 3)).alloc (.cells (madeCells #[.int .i64 0] n) 3)).rowIs (w.heap.size + 1) 3 n (fun _ => .int .i64 0)) := by
    have h := World.rowIs_made (w.alloc (.cells #[.int .i64 (-1)] 3)) (.int .i64 0) n 3
    exact hid (by simpa using h)
  have HS : Hid (∀ j, j < min 1 n → ((w.alloc (.cells #[.int .i64 (-1)] 3)).alloc (.cells (madeCells #[.int .i64 0] n) 3)).cell? ((⟨w.heap.size, 0, none⟩ : Addr).add j) = some (.int .i64 (-1))) := by
    intro j hj
    obtain rfl : j = 0 := by omega
    rw [show (⟨w.heap.size, 0, none⟩ : Addr).add 0 = ⟨w.heap.size, 0, none⟩ from rfl]
    go_simp
  go_enter Try.func53, Try.ntmps53
  go_wp2_with (first
    | (go_at_call 91; refine (HM.out _).mono ?_; rintro e w1 ⟨rfl, rfl⟩)
    | (refine wpList_copy_is (dT := 22) (sT := 22) (g := w.heap.size + 1) (off := 0) (N := n) (m := min 1 n) (f := fun _ => .int .i64 0) (h := fun _ => .int .i64 (-1)) rfl rfl Try.underlying22 (by kernel_rfl) rfl rfl HR.out rfl HS.out (by omega) (fun _ _ => rfl) ?_))
  intro W hrow hkeep
  have hk : KW w W := (((KW.refl w).alloc _).alloc _).kept hkeep fun i hi => by omega
  have hsz : w.heap.size + 1 < W.heap.size := hrow.lt
  have HK := hid hk
  have HR1 : Hid (W.rowIs (w.heap.size + 1) 3 n (fun i => if i < min 1 n then .int .i64 (-1) else .int .i64 0)) := hrow.congr fun i hi => by
    first | rfl | (split <;> split <;> first | rfl | omega)
  have hm : ∃ k : Nat, k = min 1 n ∧ k ≤ n ∧ (0 < n → 0 < k) := ⟨_, rfl, by omega, by omega⟩
  obtain ⟨k, hkm, hk1, hk2⟩ := hm
  rw [← hkm] at HR1 ⊢
  clear hrow hkeep hk hsz HS HR hkm
  go_wp2_with fail
  go_loopw [8] (fun i wr => ∃ k : Nat, k ≤ n ∧ (0 < n → 0 < k) ∧ i = .int .i64 k ∧ Hid (wr.rowIs (w.heap.size + 1) 3 n (fun i => if i < k then .int .i64 (-1) else .int .i64 0)) ∧ Hid (KW w wr)) (fun i _ => n - (intOf i).toNat)
  case atStart => exact ⟨k, hk1, hk2, rfl, HR1, HK⟩
  case round =>
    obtain ⟨q, hq1, hq2, rfl, HR2, HK2⟩ := hrel
    clear HR1 HK W hk1 hk2
    by_cases hlt : q < n
    · have hq0 : 0 < q := hq2 (by omega)
      have L0 : (n = q) = False := by simp; omega
      have L1 : (n == q) = false := by simp; omega
      have L2 : ¬ n = q := by omega
      go_wp2_with fail
      have hXS := trivial
      refine wpX_region (S := fun _ => True) (L := 99) (by kernel_rfl) ?_
      refine wpX_take (i := 0) (v := ?_) rfl rfl (by kernel_rfl) (fun _ _ _ h => h) (Or.inl ⟨rfl, fun wS hwS => ?_⟩) hXS ?_
      rotate_left
      · go_simp; try rfl
      simp only [List.set_cons_zero, List.set_cons_succ]
      refine wpX_take (i := 1) (v := ?_) rfl rfl (by kernel_rfl) (fun _ _ _ h => h) (Or.inl ⟨rfl, fun wS hwS => ?_⟩) hXS ?_
      rotate_left
      · go_simp; try rfl
      simp only [List.set_cons_zero, List.set_cons_succ]
      refine wpX_take (i := 2) (v := ?_) rfl rfl (by kernel_rfl) (fun _ _ _ h => h) (Or.inl ⟨rfl, fun wS hwS => ?_⟩) hXS ?_
      rotate_left
      · go_simp; try rfl
      simp only [List.set_cons_zero, List.set_cons_succ]
      refine wpX_take (i := 3) (v := ?_) rfl rfl (by kernel_rfl) (fun _ _ _ h => h) (Or.inl ⟨rfl, fun wS hwS => ?_⟩) hXS ?_
      rotate_left
      · go_simp; try rfl
      simp only [List.set_cons_zero, List.set_cons_succ]
      refine wpX_take (i := 4) (v := ?_) rfl rfl (by kernel_rfl) (fun _ _ _ h => h) (Or.inl ⟨rfl, fun wS hwS => ?_⟩) hXS ?_
      rotate_left
      · go_simp; try rfl
      simp only [List.set_cons_zero, List.set_cons_succ]
      refine wpX_take (i := 5) (v := ?_) rfl rfl (by kernel_rfl) (fun _ _ _ h => h) (Or.inl ⟨rfl, fun wS hwS => ?_⟩) hXS ?_
      rotate_left
      · go_simp; try rfl
      simp only [List.set_cons_zero, List.set_cons_succ]
      refine wpX_take (i := 6) (v := ?_) rfl rfl (by kernel_rfl) (fun _ _ _ h => h) (Or.inl ⟨rfl, fun wS hwS => ?_⟩) hXS ?_
      rotate_left
      · go_simp; try rfl
      simp only [List.set_cons_zero, List.set_cons_succ]
      have hm : ∃ m : Nat, m = min q (n - q) ∧ q + m ≤ n ∧ 0 < m := ⟨_, rfl, by omega, by omega⟩
      obtain ⟨m, hmm, hm1, hm2⟩ := hm
      have HMM := hid hmm
      clear hmm
      have L5 : IntKind.i64.wrap ((q : Int) + (m : Int)) = (q : Int) + (m : Int) := IntWalk.i64_in _ (by omega)
      refine wpX_copy_is (k := 7) (by kernel_rfl) rfl rfl rfl (dT := 22) (sT := 22) rfl Try.underlying22 (by kernel_rfl) (g := w.heap.size + 1) (off := q) (N := n) (m := m) (h := fun _ => .int .i64 (-1)) rfl rfl HR2.out.drew HMM.out (fun j hj => ?_) hm1 (fun _ _ => rfl) ?_
      · have hmm := HMM.out
        have e : (⟨w.heap.size + 1, 0, none⟩ : Addr).add j = ⟨w.heap.size + 1, j, none⟩ := by unfold Addr.add; split <;> simp_all
        rw [e]
        have := HR2.out.cell (i := j) (by omega)
        rw [if_pos (by omega)] at this
        exact this
      intro W3 hrow hkeep
      have HR3 : Hid (W3.rowIs (w.heap.size + 1) 3 n (fun i => if i < q + m then .int .i64 (-1) else .int .i64 0)) := hrow.congr fun i hi => by
        by_cases h1 : i < q
        · rw [if_neg (by omega), if_pos h1, if_pos (by omega)]
        · by_cases h2 : i < q + m
          · rw [if_pos ⟨by omega, h2⟩, if_pos h2]
          · rw [if_neg (by omega), if_neg h1, if_neg h2]
      have HK3 : Hid (KW w W3) := HK2.out.drew.kept hkeep fun i hi => by omega
      clear hrow hkeep
      refine ⟨fun _ => trivial, ?_⟩
      refine wpX_take (i := 8) (v := ?_) rfl rfl (by kernel_rfl) (fun _ _ _ h => h) (Or.inl ⟨rfl, fun wS hwS => ?_⟩) hXS ?_
      rotate_left
      · go_simp; try rfl
      simp only [List.set_cons_zero, List.set_cons_succ]
      refine wpX_take (i := 9) (v := ?_) rfl rfl (by kernel_rfl) (fun _ _ _ h => h) (Or.inl ⟨rfl, fun wS hwS => ?_⟩) hXS ?_
      rotate_left
      · go_simp; try rfl
      simp only [List.set_cons_zero, List.set_cons_succ]
      refine wpX_done (by kernel_rfl) ?_
      go_wp2_with fail
      go_roundw
      case rel => exact ⟨q + m, by omega, by omega, by go_num, HR3, HK3⟩
      case measure => simp [intOf]; omega
    · obtain rfl : q = n := by omega
      go_wp2_with fail
      go_ret
      exact ⟨_, rfl, by omega, HR2.out.congr fun i hi => by rw [if_pos hi], HK2.out⟩

/-- a slice cloned: nil as nil, another one as one of the call's own -/
def CloneP (w : World) (xs : List Value) (e : Ending) (w' : World) : Prop := ∃ v, e = .returned v ∧ Owns w' w.heap.size 3 v xs ∧ KW w w'
theorem clone_nil (w : World) : Calls Try.prog 54 #[.slice none 0 0] w (CloneP w []) := by
  have q22 : ∀ (w : World) (a : Option Addr) (n c n' c' : Nat), (binOp .eql 22 (.slice a n c) (.slice none n' c')).run Try.prog w = .ok (.bool a.isNone) w := fun w a n c n' c' => Lib.run_eql_slice_nil w _ _ a n c n' c' Try.underlying22
  go_enter Try.func54, Try.ntmps54
  go_wp2_with fail
  go_ret
  exact ⟨_, rfl, Owns.nil _ _ _, KW.refl w⟩
theorem sliceInt' : SliceOfS Try.prog 22 3 (.int .i64 0) 1 8 := ⟨Try.underlying22, by kernel_rfl, rfl, by omega⟩
theorem clone_some (a : Addr) (n c : Nat) (xs : List Value) (w : World) (hn : n ≤ 1048576) (hh : Holds w (.slice (some a) n c) n 1 xs) :
    Calls Try.prog 54 #[.slice (some a) n c] w (CloneP w xs) := by
  have q22 : ∀ (w : World) (a : Option Addr) (n c n' c' : Nat), (binOp .eql 22 (.slice a n c) (.slice none n' c')).run Try.prog w = .ok (.bool a.isNone) w := fun w a n c n' c' => Lib.run_eql_slice_nil w _ _ a n c n' c' Try.underlying22
  have HH := hid hh
  clear hh
  go_enter Try.func54, Try.ntmps54
  go_wp2_with (at_builtin; refine wpList_appS rfl sliceInt' rfl (W := w.alloc (.cells #[] 3)) (base := w.heap.size) (k := n) (n := 0) (xs := []) (ys := xs) rfl rfl (HH.out.kw ((KW.refl w).alloc _)) (World.ownsRow_made w #[] 0 (Nat.le_refl _) (Nat.zero_le _) rfl) (by simp) (by omega) (by omega) ?_)
  intro v' w1 hown hkeep
  have HO : Hid (Owns w1 w.heap.size 3 v' xs) := by
    have h1 := HH.out.1
    show World.ownsRow _ _ _ _ _ _ _
    rw [h1]
    simpa using hown
  have HK : Hid (KW w w1) := ((KW.refl w).alloc _).kept hkeep fun i hi => by simp [Value.ownBlock] at hi; omega
  clear hown hkeep
  go_wp2_with fail
  go_ret
  exact ⟨v', rfl, HO.out, HK.out⟩
theorem clone_any (A : Option Addr) (n c : Nat) (xs : List Value) (w : World) (hn : n ≤ 1048576) (hh : Holds w (.slice A n c) n 1 xs) :
    Calls Try.prog 54 #[.slice A n c] w (CloneP w xs) := by
  cases A with
  | some a => exact clone_some a n c xs w hn hh
  | none =>
    obtain ⟨h1, _, h3⟩ := hh
    rcases h3 with ⟨rfl, hx⟩ | ⟨ad, c', hx, _⟩
    · cases hx
      obtain rfl : xs = [] := List.length_eq_zero_iff.1 (by simpa using h1)
      exact clone_nil w
    · cases hx
end Go.Proofs.Ytgadkelldbibgaa
