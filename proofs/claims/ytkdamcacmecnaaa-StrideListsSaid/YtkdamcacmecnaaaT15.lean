/- Contract of the reference's grow (layer 31). -/
import Derived.Test.YtkdamcacmecnaaaT9
namespace Go.Proofs.Ytkdamcacmecnaaa
open Go.ChangeShapes Go.WideShapes Go.ChangeAt Go.RowKit
set_option linter.unusedVariables false

/-- numbers in a row of a block from base on -/
def Tgo (w : World) (base : Nat) (v : Value) (tags : List Int) : Prop :=
  ∃ A c, v = .slice A tags.length c ∧ (0 < tags.length → ∃ tb N f, A = some ⟨tb, 0, none⟩ ∧ base ≤ tb ∧ tags.length ≤ N ∧ w.rowIs tb 3 N f ∧ ∀ i, i < tags.length → f i = .int .i64 (tags.getD i 0))
theorem Tgo.rt0 {w : World} {base : Nat} {v : Value} {tags : List Int} (h : Tgo w base v tags) : RT0 w v tags := by
  obtain ⟨A, c, hv, hx⟩ := h
  refine ⟨A, c, hv, fun h0 => ?_⟩
  obtain ⟨tb, N, f, hA, hb, hN, hr, hf⟩ := hx h0
  exact ⟨tb, 0, hA, hr.lt, fun j hj => by rw [Nat.zero_add, hr.cell (by omega), hf j hj]⟩
theorem Tgo.keep {own : Nat → Prop} {w w' : World} {base : Nat} {v : Value} {tags : List Int} (h : Tgo w base v tags) (hk : Keep own w w') (hn : ∀ b, tbk v = some b → ¬ own b) : Tgo w' base v tags := by
  obtain ⟨A, c, rfl, hx⟩ := h
  refine ⟨A, c, rfl, fun h0 => ?_⟩
  obtain ⟨tb, N, f, rfl, hb, hN, hr, hf⟩ := hx h0
  exact ⟨tb, N, f, rfl, hb, hN, hk.row (hn tb (by show (if tags.length = 0 then none else some tb) = some tb; rw [if_neg (by omega)])) hr, hf⟩
theorem Tgo.kw {w w' : World} {base : Nat} {v : Value} {tags : List Int} (h : Tgo w base v tags) (hk : KW w w') : Tgo w' base v tags := h.keep (hk.keep (own := fun _ => False)) fun _ _ h => h
theorem Tgo.lt {w : World} {base : Nat} {v : Value} {tags : List Int} (h : Tgo w base v tags) {b : Nat} (hb : tbk v = some b) : base ≤ b ∧ b < w.heap.size := by
  obtain ⟨A, c, rfl, hx⟩ := h
  by_cases h0 : tags.length = 0
  · cases A <;> simp [tbk, h0] at hb
  · obtain ⟨tb, N, f, rfl, h1, _, hr, _⟩ := hx (by omega)
    simp [tbk, h0] at hb
    subst hb
    exact ⟨h1, hr.lt⟩
theorem Tgo.base {w : World} {base base' : Nat} {v : Value} {tags : List Int} (h : Tgo w base v tags) (hb : base' ≤ base) : Tgo w base' v tags := by
  obtain ⟨A, c, hv, hx⟩ := h
  refine ⟨A, c, hv, fun h0 => ?_⟩
  obtain ⟨tb, N, f, hA, h1, r⟩ := hx h0
  exact ⟨tb, N, f, hA, Nat.le_trans hb h1, r⟩
theorem Tgo.row1 {w : World} {base n c : Nat} {A : Option Addr} {tags : List Int} (h : Tgo w base (.slice A n c) tags) (hn : tags.length = n) : Row1 w A n fun i => .int .i64 (tags.getD i 0) := by
  obtain ⟨A', c', hv, hr⟩ := h.rt0
  simp only [Value.slice.injEq] at hv
  obtain ⟨rfl, _, _⟩ := hv
  rw [← hn]; exact hr
/-- the cell of a number -/
theorem Tgo.tag {w : World} {base : Nat} {v : Value} {tags : List Int} (h : Tgo w base v tags) {n : Nat} (hn : n < tags.length) :
    ∃ tb c, v = .slice (some ⟨tb, 0, none⟩) tags.length c ∧ base ≤ tb ∧ tb < w.heap.size ∧ tbk v = some tb ∧ w.cell? ⟨tb, n, none⟩ = some (.int .i64 (tags.getD n 0)) ∧ w.frozen? ⟨tb, n, none⟩ = false := by
  obtain ⟨A, c, rfl, hx⟩ := h
  obtain ⟨tb, N, f, rfl, hb, hN, hr, hf⟩ := hx (by omega)
  exact ⟨tb, c, rfl, hb, hr.lt, by show (if tags.length = 0 then none else some tb) = some tb; rw [if_neg (by omega)], by rw [hr.cell (by omega), hf n hn], hr.frozen n⟩
theorem Tgo.set {w : World} {base tb c : Nat} {tags : List Int} (h : Tgo w base (.slice (some ⟨tb, 0, none⟩) tags.length c) tags) {n : Nat} (hn : n < tags.length) (x : Int) :
    Tgo (w.setCell ⟨tb, n, none⟩ (.int .i64 x)) base (.slice (some ⟨tb, 0, none⟩) tags.length c) (tags.set n x) := by
  obtain ⟨A, c', hv, hx⟩ := h
  obtain ⟨tb', N, f, hA, hb, hN, hr, hf⟩ := hx (by omega)
  simp only [Value.slice.injEq] at hv
  obtain ⟨rfl, _, rfl⟩ := hv
  cases hA
  refine ⟨_, c, by simp, fun _ => ⟨tb, N, _, rfl, hb, by simpa using hN, hr.set n _, fun i hi => ?_⟩⟩
  simp only [List.length_set] at hi
  by_cases e : i = n
  · subst e; simp [hi]
  · rw [if_neg e, hf i hi]
    simp [List.getElem?_set_ne (Ne.symm e)]
theorem Owns.tgo {w : World} {base : Nat} {v : Value} {tags : List Int} (h : Owns w base 3 v (ints tags)) : Tgo w base v tags := by
  obtain ⟨h1, h2⟩ := h
  rw [ints_len] at h2
  rcases h2 with ⟨rfl, h0⟩ | ⟨g, cap, cur, rfl, hg, hc, hcap, _, hsz, htake⟩
  · exact ⟨none, 0, by rw [h0], fun hp => absurd hp (by omega)⟩
  · refine ⟨_, cap, rfl, fun _ => ⟨g, cap, fun i => cur.getD i undef, rfl, hg, hcap, ⟨cur, hc, by omega, fun i hi => ?_⟩, fun i hi => ?_⟩⟩
    · show cur[i]? = some (cur.getD i undef)
      rw [Array.getD_eq_getD_getElem?, Array.getElem?_eq_getElem (by omega)]; rfl
    · have e := ints_get tags hi
      rw [← htake, Nat.mul_one, List.getElem?_take_of_lt hi] at e
      show cur.getD i undef = _
      rw [Array.getD_eq_getD_getElem?, ← Array.getElem?_toList, e]; rfl
theorem OwnsA.new0 (w : World) {base : Nat} (hb : base ≤ w.heap.size) : OwnsA (w.alloc (.cells #[] 55)) base (.slice (some ⟨w.heap.size, 0, none⟩) 0 0) [] :=
  ⟨rfl, .inr ⟨w.heap.size, 0, #[], rfl, hb, heap_alloc_new w _, Nat.le_refl _, by unfold maxLen; omega, rfl, rfl⟩⟩

/-- what grow leaves -/
def GrowP (tags : List Int) (k : Nat) (w : World) (e : Ending) (w' : World) : Prop :=
  ∃ A c v, e = .returned (.tuple #[.slice A (Sd.gA tags k).length c, v]) ∧ OwnsA w' w.heap.size (.slice A (Sd.gA tags k).length c) (Sd.gA tags k) ∧ Tgo w' w.heap.size v (Sd.gT tags k) ∧ KW w w'
set_option maxRecDepth 100000 in
set_option maxHeartbeats 4000000 in
theorem grow_any (tags : List Int) (k : Nat) (A : Option Addr) (c : Nat) (w : World) (hk : k < 65536) (hn : 1 ≤ tags.length ∧ tags.length ≤ 1048576) (hv : (k : Int) % Sd.sd k tags.length = 0 → 0 ≤ Sd.slot (Sd.frT (Sd.sd k tags.length) tags k) (-1)) (hr : Row1 w A tags.length fun i => .int .i64 (tags.getD i 0)) :
    Calls Try.prog 87 #[.slice A tags.length c, .int .i64 k] w (GrowP tags k w) := by
  have HSt := hid (fun W => rstride_yes k tags.length W (by omega) (by omega) (by omega) (by omega))
  have HSl := hid (fun t T A c W (hT : T.length = tags.length) (h : Row1 W A tags.length fun i => .int .i64 (T.getD i 0)) => (by have := rslot_any t T A c W (by omega) (by rw [hT]; exact h); rw [hT] at this; exact this : Calls Try.prog 56 #[.slice A tags.length c, .int .i64 t] W fun e w' => e = .returned (.int .i64 (Sd.slot T t)) ∧ W = w'))
  have HTk := hid (fun j (h : j < tags.length) => ints_take_succ tags h)
  have HTl := hid (show ints (tags.take tags.length) = ints tags from by rw [List.take_length])
  have HR := hid hr
  have HV := hid hv
  have hd := Sd.sd_pos (k : Int) (tags.length : Int)
  have HFl := hid (fun t => Sd.frT_len (Sd.sd k tags.length) tags t)
  have HFs := hid (fun t => Sd.frT_succ (Sd.sd k tags.length) tags t)
  have HAs := hid (fun t => Sd.frA_succ (Sd.sd k tags.length) tags t)
  have HAl := hid (fun t => Sd.frA_le (Sd.sd k tags.length) tags t)
  have HF0 : Hid (Sd.frT (Sd.sd k tags.length) tags 0 = tags) := rfl
  have HA0 : Hid (Sd.frA (Sd.sd k tags.length) tags 0 = []) := rfl
  have HgT : Hid (Sd.gT tags k = if (k : Int) % Sd.sd k tags.length = 0 then (Sd.frT (Sd.sd k tags.length) tags k).set (Sd.slot (Sd.frT (Sd.sd k tags.length) tags k) (-1)).toNat k else Sd.frT (Sd.sd k tags.length) tags k) := rfl
  have HgA : Hid (Sd.gA tags k = Sd.frA (Sd.sd k tags.length) tags k ++ if (k : Int) % Sd.sd k tags.length = 0 then [(2, Sd.slot (Sd.frT (Sd.sd k tags.length) tags k) (-1))] else []) := rfl
  have HLt := hid (fun j => List.length_take (l := tags) (i := j))
  unfold GrowP
  generalize Sd.gT tags k = gt at *
  generalize Sd.gA tags k = ga at *
  generalize hfT : Sd.frT (Sd.sd k tags.length) tags = fT at *
  generalize hfA : Sd.frA (Sd.sd k tags.length) tags = fA at *
  generalize Sd.sd k tags.length = d at *
  clear hr hv hfT hfA
  generalize hN : tags.length = N at *
  have HN := hid hN
  clear hN
  go_enter Try.func87, Try.ntmps87
  go_wp2_with fail
  have hO0 : Owns ((w.alloc (.cells #[] 55)).alloc (.cells #[] 3)) w.heap.size 3 (.slice (some ⟨w.heap.size + 1, 0, none⟩) 0 0) (ints (tags.take 0)) := by
    have h := Owns.new (w := w.alloc (.cells #[] 55)) (base := w.heap.size) (e := 3) (xs := []) (by simp) (by simp)
    simpa [ints] using h
  have HO0 := hid hO0
  have HOA : Hid (OwnsA ((w.alloc (.cells #[] 55)).alloc (.cells #[] 3)) w.heap.size (.slice (some ⟨w.heap.size, 0, none⟩) 0 0) []) := (OwnsA.new0 w (Nat.le_refl _)).kw ((KW.refl _).alloc _)
  have HK0 : Hid (KW w ((w.alloc (.cells #[] 55)).alloc (.cells #[] 3))) := ((KW.refl w).alloc _).alloc _
  clear hO0
  go_loopw [7, 8] (fun v i wr => ∃ j : Nat, j ≤ N ∧ i = .int .i64 j ∧ Hid (Owns wr w.heap.size 3 v (ints (tags.take j))) ∧ Hid (OwnsA wr w.heap.size (.slice (some ⟨w.heap.size, 0, none⟩) 0 0) []) ∧ Hid (∀ b, v.ownBlock = some b → b ≠ w.heap.size) ∧ Hid (KW w wr)) (fun _ i _ => N - (intOf i).toNat)
  case atStart => exact ⟨0, by omega, rfl, HO0, HOA, fun b h => (by have h2 : w.heap.size + 1 = b := (by simpa [Value.ownBlock] using h); omega), HK0⟩
  case round =>
    obtain ⟨j, hj, rfl, HO, HA, HB, HK⟩ := hrel
    clear HO0 HOA HK0
    obtain ⟨Ao, co, hvo, _⟩ := HO.out.row
    have hlj : (ints (tags.take j)).length = j := by rw [ints_len, HLt.out]; omega
    rw [hlj] at hvo
    subst hvo
    by_cases hlt : j < N
    · obtain ⟨q1, o1, rfl, hq1, hcj⟩ := (HR.out.k HK.out).at_ hlt
      have L5 : (j : Int) < (N : Int) := by omega
      have HS := hid (HTk.out j hlt)
      have HZ : Hid (w.heap.size ≤ wr.heap.size) := HK.out.size
      have HLj := hid hlj
      have HNe : Hid (w.heap.size < wr.heap.size) := (HA.out.lt (b := w.heap.size) rfl).2
      clear hlj
      generalize tags.getD j 0 = x at *
      have HQ : Hid (Holds (wr.alloc (.cells #[.int .i64 x] 3)) (.slice (some ⟨wr.heap.size, 0, none⟩) 1 1) 1 1 [.int .i64 x]) := holds_one wr 3 1 (.int .i64 x) rfl
      have HO2 := hid (HO.out.alloc (.cells #[.int .i64 x] 3))
      have HB3 : Hid (w.heap.size ≤ (wr.alloc (.cells #[.int .i64 x] 3)).heap.size) := by have := HZ.out; exact hid (by simp; omega)
      have HOr : Hid ((wr.alloc (.cells #[.int .i64 x] 3)).ownsRow w.heap.size 3 1 (.slice Ao j co) j (ints (tags.take j))) := by
        have h := HO2.out
        unfold Owns at h
        rw [HLj.out] at h
        exact h
      go_wp2_with (at_builtin; refine wpList_appA rfl sliceInt' rfl (W := wr.alloc (.cells #[.int .i64 x] 3)) (base := w.heap.size) (k := 1) (n := j) (v := .slice Ao j co) (u := .slice (some ⟨wr.heap.size, 0, none⟩) 1 1) (xs := ints (tags.take j)) (ys := [.int .i64 x]) rfl rfl HQ.out HOr.out HB3.out (by omega) (by omega) ?_; intro v5 w5 hown5 hkeep5 hv5)
      have HO5 : Hid (Owns w5 w.heap.size 3 v5 (ints (tags.take (j + 1)))) := by
        rw [HS.out]
        unfold Owns
        rw [List.length_append, HLj.out]
        exact hid hown5
      have HA5 : Hid (OwnsA w5 w.heap.size (.slice (some ⟨w.heap.size, 0, none⟩) 0 0) []) := (HA.out.kw ((KW.refl wr).alloc _)).keep hkeep5 fun b hb h => by
        have h2 : w.heap.size = b := (by simpa [Value.ownBlock] using hb)
        exact HB.out b h h2.symm
      have HB5 : Hid (∀ b, v5.ownBlock = some b → b ≠ w.heap.size) := fun b hb => by
        rcases hv5 with h | h
        · exact HB.out b (by rw [← h]; exact hb)
        · rw [h] at hb
          cases hb
          have := HNe.out
          simp
          omega
      have HK5 : Hid (KW w w5) := (HK.out.alloc _).kept hkeep5 fun i hi => (HO2.out.lt hi).1
      clear hown5 hkeep5 hv5
      go_roundw
      case rel => exact ⟨j + 1, by omega, by go_num, HO5, HA5, HB5, HK5⟩
      case measure => simp [intOf]; omega
    · obtain rfl : j = N := by omega
      clear hlt
      have hO := HO.out
      rw [HTl.out] at hO
      have hT := hO.tgo
      rw [← HF0.out] at hT
      have HT := hid hT
      have hAx := HA.out
      rw [← HA0.out] at hAx
      have HAx : Hid (OwnsA wr w.heap.size (.slice (some ⟨w.heap.size, 0, none⟩) 0 0) (fA 0)) := by rw [HA0.out]; exact HA
      have HBt : Hid (∀ b, tbk (.slice Ao j co) = some b → b ≠ w.heap.size) := fun b hb => HB.out b (tbk_own hb)
      clear hO hT hAx HO HA HB hlj
      go_wp2_with (go_at_call 23; refine (HSt.out _).mono ?_; rintro e w3 ⟨rfl, rfl⟩)
      go_loopw [6, 11] (fun vo i wr => ∃ q : Nat, q ≤ k ∧ i = .int .i64 q ∧ Hid (OwnsA wr w.heap.size vo (fA q)) ∧ Hid (Tgo wr w.heap.size (.slice Ao j co) (fT q)) ∧ Hid (∀ b, vo.ownBlock = some b → ¬ tbk (.slice Ao j co) = some b) ∧ Hid (KW w wr)) (fun _ i _ => k - (intOf i).toNat)
      case atStart => exact ⟨0, by omega, rfl, HAx, HT, fun b h h2 => (HBt.out b h2 (by have h3 : w.heap.size = b := (by simpa [Value.ownBlock] using h); exact h3.symm)), HK⟩
      case round =>
        clear HAx HT HBt HK
        obtain ⟨q, hq, rfl, HA, HT, HB, HK⟩ := hrel
        obtain ⟨Av, cv, hvv, _, _⟩ := HA.out.slice
        subst hvv
        have hal := HAl.out q
        have hal0 : (fA q).length ≤ 65536 := by omega
        by_cases hlt : q < k
        · have hTl := HFl.out q
          have hs1 := HFs.out q
          have ha1 := HAs.out q
          have hsl := Sd.slot_lo (fT q) q
          rw [hTl] at hsl
          have hm := Int.emod_nonneg (q : Int) (show d ≠ 0 by omega)
          have hm2 := Int.emod_lt_of_pos (q : Int) (show 0 < d by omega)
          have L5 : (q : Int) < (k : Int) := by omega
          have L6 : (k : Int) < 65536 := by omega
          have HSq := hid (fun W (h : Tgo W w.heap.size (.slice Ao j co) (fT q)) => HSl.out q (fT q) Ao co W hTl (h.row1 hTl))
          generalize hT : fT q = T at *
          generalize hsv : Sd.slot T q = s at *
          have HS1 := hid hs1
          have HA1 := hid ha1
          have HTL := hid hTl
          have HSv := hid hsv
          clear hs1 ha1 hT hTl hsv
          by_cases c1 : (q : Int) % d = 0
          · have e1 : ((q : Int) % d != 0) = false := by simpa using c1
            have HT2 : Hid (Tgo wr w.heap.size (.slice Ao j co) (fT (q + 1))) := by rw [HS1.out, if_neg (fun h => h.1 c1)]; exact HT
            have HA2 : Hid (OwnsA wr w.heap.size (.slice Av (fA q).length cv) (fA (q + 1))) := by rw [HA1.out, if_neg (fun h => h.1 c1), List.append_nil]; exact HA
            clear c1
            go_wp2_with fail
            go_roundw
            case rel => exact ⟨q + 1, by omega, by go_num, HA2, HT2, HB, HK⟩
            case measure => simp [intOf]; omega
          · have e1 : ((q : Int) % d != 0) = true := by simpa using c1
            by_cases c2 : 0 ≤ s
            · obtain ⟨S, rfl⟩ : ∃ S : Nat, s = S := ⟨s.toNat, by omega⟩
              have HS2 : Hid (fT (q + 1) = T.set S (-1)) := by rw [HS1.out, if_pos ⟨c1, c2⟩, Int.toNat_natCast]; exact hid rfl
              have HA2 : Hid (fA (q + 1) = fA q ++ [(4, (S : Int))]) := by rw [HA1.out, if_pos ⟨c1, c2⟩]; exact hid rfl
              clear c1 c2 HS1 HA1
              have hSj : S < j := by omega
              have HQ1 : Hid (((fA q).length + 1) * 16 ≤ 140737488355328) := hid (by omega)
              have HQ2 : Hid ((fA q).length + 1 ≤ 9223372036854775807) := hid (by omega)
              have HQ3 : Hid (w.heap.size ≤ (wr.alloc (.cells #[.int .i64 4, .int .i64 S] 55)).heap.size) := by have := HK.out.size; exact hid (by simp; omega)
              have HO5 := hid (HA.out.kw ((KW.refl wr).alloc (.cells #[.int .i64 4, .int .i64 S] 55)))
              have HX : Hid (Holds (wr.alloc (.cells #[.int .i64 4, .int .i64 S] 55)) (.slice (some ⟨wr.heap.size, 0, none⟩) 1 1) 1 2 [.int .i64 4, .int .i64 S]) := Holds.new (w := wr) (t := 55) (k := 1) (size := 2) (c := 1) (ys := [.int .i64 4, .int .i64 S]) rfl rfl
              go_wp2_with (first
                | (at_builtin; refine wpList_appA rfl sliceAct rfl (W := wr.alloc (.cells #[.int .i64 4, .int .i64 S] 55)) (base := w.heap.size) (k := 1) (n := (fA q).length) (v := .slice Av (fA q).length cv) (u := .slice (some ⟨wr.heap.size, 0, none⟩) 1 1) (xs := acl (fA q)) (ys := [.int .i64 4, .int .i64 S]) rfl rfl HX.out HO5.out HQ3.out HQ1.out HQ2.out ?_; intro v5 w5 hown5 hkeep5 hv5)
                | (go_at_call 56; refine (HSq.out _ HT.out).mono ?_; rintro e w3 ⟨rfl, rfl⟩))
              have HT5 : Hid (Tgo w5 w.heap.size (.slice Ao j co) T) := (HT.out.kw ((KW.refl wr).alloc _)).keep hkeep5 fun b hb h => HB.out b h hb
              have HO6 : Hid (OwnsA w5 w.heap.size v5 (fA (q + 1))) := by rw [HA2.out]; exact hid (OwnsA.app (l' := [(4, (S : Int))]) hown5)
              have HK5 : Hid (KW w w5) := (HK.out.alloc _).kept hkeep5 fun i hi => (HO5.out.lt hi).1
              have HB5 : Hid (∀ b, v5.ownBlock = some b → ¬ tbk (.slice Ao j co) = some b) := fun b hb h2 => by
                rcases hv5 with h | h
                · exact HB.out b (by rw [← h]; exact hb) h2
                · rw [h] at hb
                  cases hb
                  have := (HT.out.lt h2).2
                  simp at this
                  omega
              clear hown5 hkeep5 hv5
              obtain ⟨tb, ct, hvt, hbt, hbl, htk, hcell, hfr⟩ := HT5.out.tag (n := S) (by rw [HTL.out]; exact hSj)
              rw [HTL.out] at hvt
              simp only [Value.slice.injEq] at hvt
              obtain ⟨rfl, _, rfl⟩ := hvt
              have HTS : Hid (∀ x, Tgo (w5.setCell ⟨tb, S, none⟩ (.int .i64 x)) w.heap.size (.slice (some ⟨tb, 0, none⟩) j co) (T.set S x)) := fun x => by
                have h := HT5.out
                rw [← HTL.out] at h ⊢
                exact h.set (by rw [HTL.out]; exact hSj) x
              have HOS : Hid (∀ x, OwnsA (w5.setCell ⟨tb, S, none⟩ x) w.heap.size v5 (fA (q + 1))) := fun x => HO6.out.keep ((Keep.refl (· = tb) w5).setCell ⟨tb, S, none⟩ x rfl) fun b hb h => HB5.out b hb (by rw [htk, h])
              have HKS : Hid (∀ x, KW w (w5.setCell ⟨tb, S, none⟩ x)) := fun x => Below.setCell (p := ⟨tb, S, none⟩) HK5.out hbt x
              have L7 : (S : Int) < (j : Int) := by omega
              go_wp2_with (go_at_call 56; refine (HSq.out _ HT5.out).mono ?_; rintro e w3 ⟨rfl, rfl⟩)
              go_roundw
              case rel => exact ⟨q + 1, by omega, by go_num, HOS.out _, by rw [HS2.out]; exact HTS.out _, HB5, HKS.out _⟩
              case measure => simp [intOf]; omega
            · have d2 : decide (0 ≤ s) = false := decide_eq_false c2
              have HT2 : Hid (Tgo wr w.heap.size (.slice Ao j co) (fT (q + 1))) := by rw [HS1.out, if_neg (fun h => c2 h.2)]; exact HT
              have HA2 : Hid (OwnsA wr w.heap.size (.slice Av (fA q).length cv) (fA (q + 1))) := by rw [HA1.out, if_neg (fun h => c2 h.2), List.append_nil]; exact HA
              clear c1 c2
              go_wp2_with (go_at_call 56; refine (HSq.out _ HT.out).mono ?_; rintro e w3 ⟨rfl, rfl⟩)
              go_roundw
              case rel => exact ⟨q + 1, by omega, by go_num, HA2, HT2, HB, HK⟩
              case measure => simp [intOf]; omega
        · obtain rfl : q = k := by omega
          clear hlt
          have hTl := HFl.out q
          have hV := HV.out
          have hgT := HgT.out
          have hgA := HgA.out
          have hsl := Sd.slot_lo (fT q) (-1)
          rw [hTl] at hsl
          have hm := Int.emod_nonneg (q : Int) (show d ≠ 0 by omega)
          have hm2 := Int.emod_lt_of_pos (q : Int) (show 0 < d by omega)
          have L6 : (q : Int) < 65536 := by omega
          have HSq := hid (fun W (h : Tgo W w.heap.size (.slice Ao j co) (fT q)) => HSl.out (-1) (fT q) Ao co W hTl (h.row1 hTl))
          generalize hT : fT q = T at *
          generalize hsv : Sd.slot T (-1) = s at *
          have HV1 := hid hV
          have HS1 := hid hgT
          have HA1 := hid hgA
          have HTL := hid hTl
          clear hV hgT hgA hT hTl hsv HgT HgA HV HFs HAs HAl HFl
          by_cases c1 : (q : Int) % d = 0
          · have e1 : ((q : Int) % d == 0) = true := by simpa using c1
            have c2 := HV1.out c1
            obtain ⟨S, rfl⟩ : ∃ S : Nat, s = S := ⟨s.toNat, by omega⟩
            have HS2 : Hid (gt = T.set S q) := by rw [HS1.out, if_pos c1, Int.toNat_natCast]; exact hid rfl
            have HA2 : Hid (ga = fA q ++ [(2, (S : Int))]) := by rw [HA1.out, if_pos c1]; exact hid rfl
            clear c1 c2 HS1 HA1 HV1
            have hSj : S < j := by omega
            have HQ1 : Hid (((fA q).length + 1) * 16 ≤ 140737488355328) := hid (by omega)
            have HQ2 : Hid ((fA q).length + 1 ≤ 9223372036854775807) := hid (by omega)
            have HQ3 : Hid (w.heap.size ≤ (wr.alloc (.cells #[.int .i64 2, .int .i64 S] 55)).heap.size) := by have := HK.out.size; exact hid (by simp; omega)
            have HO5 := hid (HA.out.kw ((KW.refl wr).alloc (.cells #[.int .i64 2, .int .i64 S] 55)))
            have HX : Hid (Holds (wr.alloc (.cells #[.int .i64 2, .int .i64 S] 55)) (.slice (some ⟨wr.heap.size, 0, none⟩) 1 1) 1 2 [.int .i64 2, .int .i64 S]) := Holds.new (w := wr) (t := 55) (k := 1) (size := 2) (c := 1) (ys := [.int .i64 2, .int .i64 S]) rfl rfl
            go_wp2_with (first
              | (at_builtin; refine wpList_appA rfl sliceAct rfl (W := wr.alloc (.cells #[.int .i64 2, .int .i64 S] 55)) (base := w.heap.size) (k := 1) (n := (fA q).length) (v := .slice Av (fA q).length cv) (u := .slice (some ⟨wr.heap.size, 0, none⟩) 1 1) (xs := acl (fA q)) (ys := [.int .i64 2, .int .i64 S]) rfl rfl HX.out HO5.out HQ3.out HQ1.out HQ2.out ?_; intro v5 w5 hown5 hkeep5 hv5)
              | (go_at_call 56; refine (HSq.out _ HT.out).mono ?_; rintro e w3 ⟨rfl, rfl⟩))
            have HT5 : Hid (Tgo w5 w.heap.size (.slice Ao j co) T) := (HT.out.kw ((KW.refl wr).alloc _)).keep hkeep5 fun b hb h => HB.out b h hb
            have HO6 : Hid (OwnsA w5 w.heap.size v5 ga) := by rw [HA2.out]; exact hid (OwnsA.app (l' := [(2, (S : Int))]) hown5)
            have HK5 : Hid (KW w w5) := (HK.out.alloc _).kept hkeep5 fun i hi => (HO5.out.lt hi).1
            have HB5 : Hid (∀ b, v5.ownBlock = some b → ¬ tbk (.slice Ao j co) = some b) := fun b hb h2 => by
              rcases hv5 with h | h
              · exact HB.out b (by rw [← h]; exact hb) h2
              · rw [h] at hb
                cases hb
                have := (HT.out.lt h2).2
                simp at this
                omega
            clear hown5 hkeep5 hv5
            obtain ⟨tb, ct, hvt, hbt, hbl, htk, hcell, hfr⟩ := HT5.out.tag (n := S) (by rw [HTL.out]; exact hSj)
            rw [HTL.out] at hvt
            simp only [Value.slice.injEq] at hvt
            obtain ⟨rfl, _, rfl⟩ := hvt
            have HTS : Hid (∀ x, Tgo (w5.setCell ⟨tb, S, none⟩ (.int .i64 x)) w.heap.size (.slice (some ⟨tb, 0, none⟩) j co) (T.set S x)) := fun x => by
              have h := HT5.out
              rw [← HTL.out] at h ⊢
              exact h.set (by rw [HTL.out]; exact hSj) x
            have HOS : Hid (∀ x, OwnsA (w5.setCell ⟨tb, S, none⟩ x) w.heap.size v5 ga) := fun x => HO6.out.keep ((Keep.refl (· = tb) w5).setCell ⟨tb, S, none⟩ x rfl) fun b hb h => HB5.out b hb (by rw [htk, h])
            have HKS : Hid (∀ x, KW w (w5.setCell ⟨tb, S, none⟩ x)) := fun x => Below.setCell (p := ⟨tb, S, none⟩) HK5.out hbt x
            have L7 : (S : Int) < (j : Int) := by omega
            go_wp2_with (go_at_call 56; refine (HSq.out _ HT5.out).mono ?_; rintro e w3 ⟨rfl, rfl⟩)
            have HOx := hid (HOS.out (.int .i64 q))
            obtain ⟨A5, c5, hv5, _, _⟩ := HOx.out.slice
            subst hv5
            have HTx := hid (HTS.out (q : Int))
            rw [← HS2.out] at HTx
            go_ret2
            exact ⟨A5, c5, _, rfl, HOx.out, HTx.out, HKS.out _⟩
          · have e1 : ((q : Int) % d == 0) = false := by simpa using c1
            obtain rfl : gt = T := by rw [HS1.out, if_neg c1]
            obtain rfl : ga = fA q := by rw [HA1.out, if_neg c1, List.append_nil]
            clear c1 HS1 HA1 HV1
            go_wp2_with fail
            go_ret2
            exact ⟨Av, cv, .slice Ao j co, rfl, HA.out, HT.out, HK.out⟩
end Go.Proofs.Ytkdamcacmecnaaa
