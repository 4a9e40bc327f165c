/- A stride's schedule, backward. No program. -/
import Derived.Test.YtkdamcacmecnaaaPlainW
namespace Go.Proofs.Ytkdamcacmecnaaa
set_option linter.unusedVariables false
namespace Sd
open Mc (St Act Goes Runs Does)

theorem st_tags {l a p t : Int} {T T' : List Int} (h : T = T') : (⟨l, a, p, t, T⟩ : St) = ⟨l, a, p, t, T'⟩ := by rw [h]
/-- all from p on are let go -/
def cut (tags : List Int) (p : Int) : List Int := tags.map fun t => if p ≤ t then -1 else t
theorem cut_len (tags : List Int) (p : Int) : (cut tags p).length = tags.length := by simp [cut]
theorem cut_get (tags : List Int) (p : Int) {j : Nat} (hj : j < tags.length) : (cut tags p).getD j 0 = if p ≤ tags.getD j 0 then -1 else tags.getD j 0 := by simp [cut, hj]
theorem list_ext {a b : List Int} (hl : a.length = b.length) (h : ∀ j, j < a.length → a.getD j 0 = b.getD j 0) : a = b := by
  apply List.ext_getElem hl
  intro i h1 h2
  have := h i h1
  simpa [h1, h2] using this
theorem Held.cut {P : Int → Prop} {tags : List Int} (h : Held P tags) (p : Int) : Held (fun x => P x ∧ x < p) (cut tags p) := by
  refine ⟨fun j hj => ?_, fun t ht ⟨q, hp⟩ => ?_, fun i j hi hj e hn => ?_⟩
  · rw [cut_len] at hj
    rw [cut_get _ _ hj]
    split
    · exact .inl rfl
    · rename_i c
      exact (h.all j hj).imp id fun ⟨a, b⟩ => ⟨a, b, by omega⟩
  · obtain ⟨j, hj, e⟩ := h.has t ht q
    exact ⟨j, by rw [cut_len]; exact hj, by rw [cut_get _ _ hj, if_neg (by omega)]; exact e⟩
  · rw [cut_len] at hi hj
    rw [cut_get _ _ hi] at hn
    rw [cut_get _ _ hi, cut_get _ _ hj] at e
    by_cases c : p ≤ tags.getD i 0
    · rw [if_pos c] at hn; omega
    · rw [if_neg c] at e hn
      by_cases c2 : p ≤ tags.getD j 0
      · rw [if_pos c2] at e; omega
      · rw [if_neg c2] at e
        exact h.one i j hi hj e hn
theorem slot_one {P : Int → Prop} {tags : List Int} (h : Held P tags) {j : Nat} (hj : j < tags.length) (h0 : 0 ≤ tags.getD j 0) : slot tags (tags.getD j 0) = j :=
  slot_is hj rfl fun i hi e => by have := h.one j i hj (by omega) e.symm h0; omega
theorem base_one {P : Int → Prop} {tags : List Int} (h : Held P tags) {j : Nat} (hj : j < tags.length) (h0 : 0 ≤ tags.getD j 0) (ht : ∀ t, 0 ≤ t → P t → t ≤ tags.getD j 0) : base tags = j := by
  rcases base_cases tags with ⟨_, h2⟩ | ⟨k, hk, h1, h2, h3, h4⟩
  · have := h2 j hj; omega
  · rw [h1]
    have e1 := h3 j hj
    have e2 : tags.getD k 0 ≤ tags.getD j 0 := by
      rcases h.all k hk with a | ⟨a, b⟩
      · omega
      · exact ht _ a b
    have := h.one k j hk hj (by omega) h2
    omega
/-- one step back: from the multiple that is at it or ahead of it -/
def bR (d : Int) (T : List Int) (i : Nat) : List Act :=
  (3, slot T (i - i % d)) :: ((if 0 < (i : Int) % d then [(1, (i : Int) % d)] else []) ++ (7, 0) :: (if (i : Int) % d = 0 then [(4, slot T (i - i % d))] else []))
def bD (d : Int) (T : List Int) : Nat → List Act
  | 0 => []
  | i + 1 => bR d T i ++ bD d T i
/-- all that comes behind the last step -/
def bL (d : Int) (T : List Int) (l : Nat) : List Act := (5, 0) :: ((if (l : Int) % d = 0 then [(4, slot T l)] else []) ++ bD d T l)

theorem cut_free {P : Int → Prop} {T : List Int} (h : Held P T) {j : Nat} (hj : j < T.length) {i : Nat} (e : T.getD j 0 = i) (htop : ∀ t, 0 ≤ t → P t → t < (i + 1 : Nat) → t ≤ i) : (cut T (i + 1 : Nat)).set j (-1) = cut T i := by
  refine list_ext (by rw [List.length_set, cut_len, cut_len]) fun k hk => ?_
  rw [List.length_set, cut_len] at hk
  rw [getD_set _ _ _ _ (by rw [cut_len]; exact hj), cut_get _ _ hk, cut_get _ _ hk]
  by_cases c : k = j
  · subst c; rw [if_pos rfl, if_pos (by omega)]
  · rw [if_neg c]
    have hne : T.getD k 0 ≠ i := fun e2 => c (h.one k j hk hj (by omega) (by omega))
    by_cases c2 : ((i : Nat) : Int) ≤ T.getD k 0
    · rw [if_pos (by omega), if_pos c2]
    · rw [if_neg (by omega), if_neg c2]
theorem cut_same {P : Int → Prop} {T : List Int} (h : Held P T) {i : Nat} (hP : ¬ P i) : cut T (i + 1 : Nat) = cut T i := by
  refine list_ext (by rw [cut_len, cut_len]) fun k hk => ?_
  rw [cut_len] at hk
  rw [cut_get _ _ hk, cut_get _ _ hk]
  have hne : T.getD k 0 ≠ i := fun e2 => by
    rcases h.all k hk with a | ⟨_, b⟩
    · omega
    · rw [e2] at b; exact hP b
  by_cases c2 : ((i : Nat) : Int) ≤ T.getD k 0
  · rw [if_pos (by omega), if_pos c2]
  · rw [if_neg (by omega), if_neg c2]
theorem back_goes {l i : Nat} {d tot : Int} {T : List Int} {P : Int → Prop} (hP : ∀ x : Int, 0 ≤ x → x ≤ (l : Int) → (P x ↔ x % d = 0)) (h : Held P T) (hPl : ∀ x : Int, 0 ≤ x → P x → x ≤ (l : Int)) (hd : 1 ≤ d) (hl : l < 65536) (hn : 1 ≤ T.length ∧ T.length ≤ 1048576) (hi : i < l) (e : Bool) :
    Goes (nm l e) ⟨l, (i + 1 : Nat), (i + 1 : Nat), tot, cut T (i + 1 : Nat)⟩ (bR d T i) ⟨l, i, i, tot + i % d, cut T i⟩ := by
  have hmod := Int.emod_nonneg (i : Int) (show d ≠ 0 by omega)
  have hlt := Int.emod_lt_of_pos (i : Int) (show 0 < d by omega)
  have hle : (i : Int) % d ≤ i := by
    obtain ⟨D, rfl⟩ : ∃ D : Nat, d = D := ⟨d.toNat, by omega⟩
    have := Nat.mod_le i D
    have e : ((i : Int) % (D : Int)) = ((i % D : Nat) : Int) := by simp
    rw [e]; omega
  have hb0 : ((i : Int) - i % d) % d = 0 := by
    rw [Int.sub_emod, Int.emod_emod_of_dvd _ (Int.dvd_refl d), Int.sub_self, Int.zero_emod]
  have htop : ∀ t, 0 ≤ t → P t → t < (i + 1 : Nat) → t ≤ (i : Int) - i % d := by
    intro t h0 hp ht
    have hz := (hP t h0 (by omega)).1 hp
    have h2 : t / d * d + t % d = t := Int.ediv_mul_add_emod t d
    have h3 : (i : Int) / d * d + (i : Int) % d = i := Int.ediv_mul_add_emod i d
    have h4 : t / d ≤ (i : Int) / d := Int.ediv_le_ediv (by omega) (by omega)
    have h5 : t / d * d ≤ (i : Int) / d * d := Int.mul_le_mul_of_nonneg_right h4 (by omega)
    omega
  obtain ⟨j, hj, ej⟩ := h.has ((i : Int) - i % d) (by omega) ((hP _ (by omega) (by omega)).2 hb0)
  have hs : slot T ((i : Int) - i % d) = j := by rw [← ej]; exact slot_one h hj (by omega)
  have hc := h.cut (i + 1 : Nat)
  have hcj : (cut T (i + 1 : Nat)).getD j 0 = (i : Int) - i % d := by rw [cut_get _ _ hj, if_neg (by omega), ej]
  have hcl := cut_len T (i + 1 : Nat)
  have hbase : base (cut T (i + 1 : Nat)) = j := base_one hc (by rw [hcl]; exact hj) (by rw [hcj]; omega) (by rw [hcj]; exact fun t h0 hp => htop t h0 hp.1 hp.2)
  have hok : ∀ a p : Int, 0 ≤ a ∧ a ≤ l → -1 ≤ p ∧ p ≤ l → okS l a p (cut T (i + 1 : Nat)) := fun a p ha hp => hc.okS (by omega) ha hp (by rw [hcl]; exact hn) fun t h0 ht => hPl t h0 ht.1
  unfold bR
  rw [hs]
  have hend : cut T i = if (i : Int) % d = 0 then (cut T (i + 1 : Nat)).set j (-1) else cut T (i + 1 : Nat) := by
    by_cases c : (i : Int) % d = 0
    · rw [if_pos c, cut_free h hj (by omega) (fun t _ _ ht => by omega)]
    · rw [if_neg c, cut_same h fun hp => c ((hP i (by omega) (by omega)).1 hp)]
  rw [hend]
  generalize cut T (i + 1 : Nat) = C at *
  -- restore
  have s1 := step_restore (m := ⟨l, (i + 1 : Nat), (i + 1 : Nat), tot, C⟩) (n := j) (by show j < C.length; omega) (by show C.length ≤ 1048576; omega) (by show (0 : Int) ≤ C.getD j 0; omega)
  have x1 : nm l e ⟨l, (i + 1 : Nat), (i + 1 : Nat), tot, C⟩ = some (3, (j : Int)) := by
    unfold nm nx
    rw [if_neg (not_not_intro (hok _ _ (by dsimp only; omega) (by dsimp only; omega))), if_neg (by show ¬ ((i + 1 : Nat) : Int) < 0; omega), hbase, Int.toNat_natCast, if_neg (by simp only [hcj]; omega), if_neg (by show ¬ ((i + 1 : Nat) : Int) = 0; omega), if_neg (by show ¬ ((i + 1 : Nat) : Int) = ((i + 1 : Nat) : Int) - 1; omega), if_pos ⟨by omega, .inr (by show ((i + 1 : Nat) : Int) ≤ ((i + 1 : Nat) : Int); omega)⟩]
  refine ⟨x1, by rw [s1], ?_⟩
  rw [s1]
  simp only [hcj]
  -- advance
  have key : ∀ a t : Int, a = i → Goes (nm l e) ⟨l, a, (i + 1 : Nat), t, C⟩ ((7, 0) :: (if (i : Int) % d = 0 then [(4, (j : Int))] else [])) ⟨l, i, i, t, if (i : Int) % d = 0 then C.set j (-1) else C⟩ := by
    intro a t ha
    subst ha
    have s2 := step_rev (m := ⟨l, i, (i + 1 : Nat), t, C⟩) (by show (1 : Int) ≤ ((i + 1 : Nat) : Int); omega) (by show (i : Int) = ((i + 1 : Nat) : Int) - 1; omega)
    have x2 : nm l e ⟨l, i, (i + 1 : Nat), t, C⟩ = some (7, 0) := by
      unfold nm nx
      rw [if_neg (not_not_intro (hok _ _ (by dsimp only; omega) (by dsimp only; omega))), if_neg (by show ¬ ((i + 1 : Nat) : Int) < 0; omega), hbase, Int.toNat_natCast, if_neg (by simp only [hcj]; omega), if_neg (by show ¬ ((i + 1 : Nat) : Int) = 0; omega), if_pos (by show (i : Int) = ((i + 1 : Nat) : Int) - 1; omega)]
    refine ⟨x2, by rw [s2], ?_⟩
    rw [s2]
    by_cases c : (i : Int) % d = 0
    · rw [if_pos c, if_pos c]
      have s3 := step_free (m := ⟨l, i, i, t, C⟩) (n := j) (by show j < C.length; omega) (by show C.length ≤ 1048576; omega) (by show (0 : Int) ≤ C.getD j 0; omega)
      have x3 : nm l e ⟨l, i, i, t, C⟩ = some (4, (j : Int)) := by
        unfold nm nx
        rw [if_neg (not_not_intro (hok _ _ (by dsimp only; omega) (by dsimp only; omega))), if_neg (by show ¬ (i : Int) < 0; omega), hbase, Int.toNat_natCast, if_pos (by simp only [hcj]; omega)]
      refine ⟨x3, by rw [s3], ?_⟩
      rw [s3]
      exact (rfl : (⟨(l : Int), i, i, t, C.set j (-1)⟩ : St) = _)
    · rw [if_neg c, if_neg c]; rfl
  by_cases c : 0 < (i : Int) % d
  · rw [if_pos c]
    have s2 := step_adv (m := ⟨l, (i : Int) - i % d, (i + 1 : Nat), tot, C⟩) (n := (i : Int) % d) (by omega) (by omega) (by show (i : Int) % d ≤ (l : Int) - ((i : Int) - i % d); omega)
    have x2 : nm l e ⟨l, (i : Int) - i % d, (i + 1 : Nat), tot, C⟩ = some (1, (i : Int) % d) := by
      unfold nm nx
      rw [if_neg (not_not_intro (hok _ _ (by dsimp only; omega) (by dsimp only; omega))), if_neg (by show ¬ ((i + 1 : Nat) : Int) < 0; omega), hbase, Int.toNat_natCast, if_neg (by simp only [hcj]; omega), if_neg (by show ¬ ((i + 1 : Nat) : Int) = 0; omega), if_neg (by show ¬ (i : Int) - i % d = ((i + 1 : Nat) : Int) - 1; omega), if_neg (by dsimp only; rw [hcj]; omega), if_pos (by show (i : Int) - i % d < ((i + 1 : Nat) : Int); omega)]
      refine congrArg (fun z => some ((1 : Int), z)) ?_
      show ((i + 1 : Nat) : Int) - 1 - ((i : Int) - i % d) = _
      omega
    refine ⟨x2, by rw [s2], ?_⟩
    rw [s2]
    exact key ((i : Int) - i % d + i % d) (tot + i % d) (by omega)
  · rw [if_neg c]
    have e0 : (i : Int) % d = 0 := by omega
    have := key ((i : Int) - i % d) tot (by omega)
    rw [e0] at this ⊢
    simpa using this

theorem down_goes {l : Nat} {d : Int} {T : List Int} {P : Int → Prop} (hP : ∀ x : Int, 0 ≤ x → x ≤ (l : Int) → (P x ↔ x % d = 0)) (h : Held P T) (hPl : ∀ x : Int, 0 ≤ x → P x → x ≤ (l : Int)) (hd : 1 ≤ d) (hl : l < 65536) (hn : 1 ≤ T.length ∧ T.length ≤ 1048576) (e : Bool) :
    ∀ i tot, i ≤ l → Goes (nm l e) ⟨l, i, i, tot, cut T i⟩ (bD d T i) ⟨l, 0, 0, tot + Mc.sum (fun i => (i : Int) % d) i, cut T 0⟩ := by
  intro i
  induction i with
  | zero => intro tot _; unfold bD; simp [Goes, Mc.sum]
  | succ i ih =>
    intro tot hi
    have h1 := back_goes (tot := tot) hP h hPl hd hl hn (i := i) (by omega) e
    have h2 := ih (tot + i % d) (by omega)
    have := h1.trans h2
    rw [show tot + (i : Int) % d + Mc.sum (fun i => (i : Int) % d) i = tot + Mc.sum (fun i => (i : Int) % d) (i + 1) by simp only [Mc.sum]; omega] at this
    exact this
theorem back_runs {n l : Nat} (hl : l < 65536) (hn : 1 ≤ n ∧ n ≤ 1048576) :
    Runs (nm l true) (mA l n l) (bL (sd l n) (aT n l) l) ⟨l, 0, 0, tot l (sd l n), cut (aT n l) 0⟩ := by
  have h := aT_held (n := n) (k := l) hl hn
  have hlen := aT_len n l
  have hd := sd_pos (l : Int) (n : Int)
  have hP : ∀ x : Int, 0 ≤ x → x ≤ l → ((x < (l + 1 : Nat) ∧ x % sd l n = 0) ↔ x % sd l n = 0) := fun x _ h => ⟨fun a => a.2, fun a => ⟨by omega, a⟩⟩
  have hPl : ∀ x : Int, 0 ≤ x → (x < (l + 1 : Nat) ∧ x % sd l n = 0) → x ≤ l := fun x _ h => by omega
  have hdn := down_goes hP h hPl hd hl (by rw [hlen]; exact hn) true l l (by omega)
  unfold mA bL tot
  have hsd : sd l (aT n l).length = sd l n := by rw [hlen]
  generalize aT n l = T at *
  generalize sd l n = d at *
  have hoff : off d T = -1 := by
    rcases off_cases d T with ⟨h1, _⟩ | ⟨i, hi, _, h2, _⟩
    · exact h1
    · unfold bad at h2
      simp only [Bool.and_eq_true, decide_eq_true_eq] at h2
      rcases h.all i hi with a | ⟨_, _, b⟩
      · omega
      · exact absurd b h2.2
  have hok : ∀ a p : Int, 0 ≤ a ∧ a ≤ l → -1 ≤ p ∧ p ≤ l → okS l a p T := fun a p ha hp => h.okS (by omega) ha hp (by rw [hlen]; exact hn) hPl
  have s1 := step_seed (m := ⟨l, l, -1, l, T⟩) rfl rfl
  have x1 : nm l true ⟨l, l, -1, l, T⟩ = some (5, 0) := by
    unfold nm nx
    rw [if_neg (not_not_intro (hok _ _ (by show (0 : Int) ≤ (l : Int) ∧ (l : Int) ≤ l; omega) (by show (-1 : Int) ≤ -1 ∧ (-1 : Int) ≤ l; omega))), if_pos (by show (-1 : Int) < 0; omega), if_neg (by show ¬ (l : Int) < l; omega), hsd, hoff, if_neg (by omega), if_neg ?_, if_pos rfl]
    rintro ⟨h1, h2, _⟩
    have := (h.sl1 (t := (l : Int)) (by omega)).1 ⟨by omega, h1⟩
    have h3 : slot T l < 0 := h2
    omega
  refine ⟨x1, by rw [s1], ?_⟩
  rw [s1]
  have hstop : nm l true ⟨l, 0, 0, (l : Int) + Mc.sum (fun i => (i : Int) % d) l, cut T 0⟩ = none := by
    have hc := h.cut 0
    have hcl := cut_len T 0
    have hb : base (cut T 0) = -1 := by
      rcases base_cases (cut T 0) with ⟨h1, _⟩ | ⟨k, hk, _, h2, _⟩
      · exact h1
      · rcases hc.all k hk with a | ⟨_, _, b⟩ <;> omega
    unfold nm nx
    rw [if_neg (not_not_intro (hc.okS (by omega) (by show (0 : Int) ≤ 0 ∧ (0 : Int) ≤ l; omega) (by show (-1 : Int) ≤ 0 ∧ (0 : Int) ≤ l; omega) (by rw [hcl, hlen]; exact hn) fun t h0 ht => by omega)), if_neg (by show ¬ (0 : Int) < 0; omega), hb, if_neg (by omega), if_pos rfl]
  refine Goes.run ?_ (hdn.run (Runs.stop hstop) : Runs _ _ (bD d T l ++ []) _) |> fun h => by rw [List.append_nil] at h; exact h
  by_cases c : (l : Int) % d = 0
  · rw [if_pos c]
    obtain ⟨j, hj, ej⟩ := h.has (l : Int) (by omega) ⟨by omega, c⟩
    have hs : slot T l = j := by rw [← ej]; exact slot_one h hj (by omega)
    have hbase : base T = j := base_one h hj (by omega) (by rw [ej]; exact hPl)
    have s2 := step_free (m := ⟨l, l, l, l, T⟩) (n := j) hj (by show T.length ≤ 1048576; omega) (by show (0 : Int) ≤ T.getD j 0; omega)
    have x2 : nm l true ⟨l, l, l, l, T⟩ = some (4, (j : Int)) := by
      unfold nm nx
      rw [if_neg (not_not_intro (hok _ _ (by show (0 : Int) ≤ (l : Int) ∧ (l : Int) ≤ l; omega) (by show (-1 : Int) ≤ (l : Int) ∧ (l : Int) ≤ l; omega))), if_neg (by show ¬ (l : Int) < 0; omega), hbase, Int.toNat_natCast, if_pos (by simp only [ej]; omega)]
    rw [hs]
    refine ⟨x2, by rw [s2], ?_⟩
    rw [s2]
    show (⟨(l : Int), l, l, l, cut T l⟩ : St) = ⟨l, l, l, l, T.set j (-1)⟩
    refine st_tags ?_
    refine list_ext (by rw [List.length_set, cut_len]) fun k hk => ?_
    rw [cut_len] at hk
    rw [getD_set _ _ _ _ hj, cut_get _ _ hk]
    by_cases e : k = j
    · rw [if_pos e, if_pos (by rw [e]; omega)]
    · rw [if_neg e, if_neg]
      intro hle
      have h3 : T.getD k 0 = l := by
        rcases h.all k hk with a | ⟨a, b, _⟩ <;> omega
      exact e (h.one k j hk hj (by omega) (by omega))
  · rw [if_neg c]
    show (⟨(l : Int), l, l, l, cut T l⟩ : St) = ⟨l, l, l, l, T⟩
    refine st_tags ?_
    refine list_ext (by rw [cut_len]) fun k hk => ?_
    rw [cut_len] at hk
    rw [cut_get _ _ hk, if_neg]
    intro hle
    rcases h.all k hk with a | ⟨a, b, b2⟩
    · omega
    · have h3 : T.getD k 0 = l := by omega
      rw [h3] at b2; exact c b2
/-- the whole schedule -/
def lA (n l : Nat) : List Act := aA n l ++ bL (sd l n) (aT n l) l
theorem does_all {n l : Nat} (hl : l < 65536) (hn : 1 ≤ n ∧ n ≤ 1048576) : Does (Mc.new l n) (lA n l) ⟨l, 0, 0, tot l (sd l n), cut (aT n l) 0⟩ :=
  (does_ahead (L := (l : Int)) (by omega) hn l (by omega)).trans (back_runs hl hn).does
end Sd
end Go.Proofs.Ytkdamcacmecnaaa
