/- Several texts in one. -/
import Derived.Test.YtgadkelldbibgaaPU
import Derived.Test.YtgadkelldbibgaaPlainR
/- A chain whose length is known: the next action, the schedule by parts, what it comes to. No program. -/
namespace Go.Proofs.Ytgadkelldbibgaa
set_option linter.unusedVariables false
namespace Rv
open Mc (St Goes Runs Does)
open Sd (slot tmx okS getD_set cnk)

/-- how many hold nothing -/
def vac : List Int → Nat
  | [] => 0
  | x :: l => (if x < 0 then 1 else 0) + vac l
theorem vac_le (tags : List Int) : vac tags ≤ tags.length := by
  induction tags with
  | nil => exact Nat.le_refl _
  | cons x l ih => simp only [vac, List.length_cons]; split <;> omega
theorem vac_cnt (tags : List Int) : vac tags + Mc.cnt tags = tags.length := by
  induction tags with
  | nil => rfl
  | cons x l ih => simp only [vac, Mc.cnt, List.length_cons]; split <;> split <;> omega
theorem vac_set (tags : List Int) (k : Nat) (x : Int) (hk : k < tags.length) : (vac (tags.set k x) : Int) + (if tags.getD k 0 < 0 then 1 else 0) = vac tags + (if x < 0 then 1 else 0) := by
  have h1 := vac_cnt tags
  have h2 := vac_cnt (tags.set k x)
  have h3 := Sd.cnt_set tags k x hk
  rw [List.length_set] at h2
  split at h3 <;> split at h3 <;> split <;> split <;> omega
theorem vac_pos {tags : List Int} (h : ∀ i, i < tags.length → -1 ≤ tags.getD i 0) : 0 < vac tags ↔ 0 ≤ slot tags (-1) := by
  induction tags with
  | nil => simp [vac, slot]
  | cons x l ih =>
    have h0 := h 0 (by simp)
    simp only [List.getD_cons_zero] at h0
    have ih := ih fun i hi => by have := h (i + 1) (by simpa using hi); simpa using this
    simp only [vac, slot]
    have hs := Sd.slot_lo l (-1)
    by_cases e : x = -1
    · rw [if_pos e, if_pos (by omega)]; omega
    · rw [if_neg e, if_neg (by omega)]
      split
      · omega
      · omega
/-- where it ends -/
def en (l p : Int) : Int := if p < 0 then l else p
/-- the next action of a spot that may be -/
def rw0 (l a p : Int) (tags : List Int) : Option Mc.Act :=
  if 0 ≤ p ∧ en l p ≤ tmx tags tags.length then some (4, slot tags (tmx tags tags.length))
  else if p = 0 then none
  else if p < 0 ∧ a = l then some (5, 0)
  else if a = en l p - 1 then some (if 0 ≤ p then 7 else 6, 0)
  else if tmx tags tags.length < 0 then (if a < en l p then some (2, 0) else none)
  else if a < tmx tags tags.length ∨ en l p ≤ a then some (3, slot tags (tmx tags tags.length))
  else if tmx tags tags.length < a then (if 0 < vac tags then some (2, slot tags (-1)) else some (1, en l p - 1 - a))
  else some (1, Ch.sp (en l p - tmx tags tags.length).toNat (vac tags + 1))
open Classical in
noncomputable def rv (l a p : Int) (tags : List Int) : Option Mc.Act := if ¬ okS l a p tags then none else rw0 l a p tags
noncomputable def nm (l : Int) (m : St) : Option Mc.Act := rv l m.at_ m.pend m.tags
theorem rv_ok {l a p : Int} {tags : List Int} (h : okS l a p tags) : rv l a p tags = rw0 l a p tags := by unfold rv; rw [if_neg (fun g => g h)]
theorem rv_no {l a p : Int} {tags : List Int} (h : ¬ okS l a p tags) : rv l a p tags = none := by unfold rv; rw [if_pos h]

/-- the least slot that holds nothing -/
def lst : List Bool → Nat
  | [] => 0
  | b :: l => if b then lst l + 1 else 0
def hb (tags : List Int) : List Bool := tags.map fun t => decide (0 ≤ t)
theorem hb_set (tags : List Int) (k : Nat) (x : Int) : hb (tags.set k x) = (hb tags).set k (decide (0 ≤ x)) := by unfold hb; rw [List.map_set]
theorem hb_new (n : Nat) : hb (List.replicate n (-1)) = List.replicate n false := by unfold hb; rw [List.map_replicate]; rfl
theorem lst_slot {tags : List Int} (h : ∀ i, i < tags.length → -1 ≤ tags.getD i 0) (hv : 0 < vac tags) : slot tags (-1) = lst (hb tags) := by
  induction tags with
  | nil => simp [vac] at hv
  | cons x l ih =>
    have h0 := h 0 (by simp)
    simp only [List.getD_cons_zero] at h0
    have h' : ∀ i, i < l.length → -1 ≤ l.getD i 0 := fun i hi => by have := h (i + 1) (by simpa using hi); simpa using this
    simp only [vac] at hv
    simp only [slot, hb, List.map_cons, lst]
    by_cases e : x = -1
    · rw [if_pos e, e]; rfl
    · rw [if_neg e, decide_eq_true (show 0 ≤ x by omega), if_pos rfl]
      rw [if_neg (show ¬ x < 0 by omega)] at hv
      have hv' : 0 < vac l := by omega
      have h2 := (vac_pos h').1 hv'
      have h3 : slot l (-1) = lst (l.map fun t => decide (0 ≤ t)) := ih h' hv'
      rw [if_neg (by omega), h3]
      omega
def turn (last : Bool) : Mc.Act := (if last then 6 else 7, 0)
/-- the parts of n steps, whose first state slot k holds -/
def lp : Nat → Nat → Nat → Nat → List Bool → Bool → List Mc.Act
  | 0, _, _, _, _, _ => []
  | f + 1, n, c, k, own, last =>
    if n ≤ 1 then [(7, 0), (4, (k : Int))]
    else (1, ((Ch.sp n c).toNat : Int)) ::
      ((if n - (Ch.sp n c).toNat = 1 then [turn last] else (2, (lst own : Int)) :: lp f (n - (Ch.sp n c).toNat) (c - 1) (lst own) (own.set (lst own) true) last) ++
        (3, (k : Int)) :: lp f (Ch.sp n c).toNat c k own false)
/-- a part: n steps by c slots that hold nothing -/
def pt (f n c : Nat) (held : List Bool) (last : Bool) : List Mc.Act :=
  if n = 1 then [turn last] else (2, (lst held : Int)) :: lp f n c (lst held) (held.set (lst held) true) last
theorem lp_one (f c k : Nat) (own : List Bool) (last : Bool) : lp (f + 1) 1 c k own last = [(7, 0), (4, (k : Int))] := rfl
theorem lp_more (f n c k : Nat) (own : List Bool) (last : Bool) (h : 2 ≤ n) : lp (f + 1) n c k own last =
    (1, ((Ch.sp n c).toNat : Int)) :: (pt f (n - (Ch.sp n c).toNat) (c - 1) own last ++ (3, (k : Int)) :: lp f (Ch.sp n c).toNat c k own false) := by
  rw [lp, if_neg (by omega)]
  rfl

/-- what holds of a split -/
theorem rp_1 (c : Nat) : Ch.rp 1 c = 0 := by
  show Ch.rpF 1 c 1 0 = 0
  rw [Ch.rpF, if_pos (by rw [Ch.be_zero]; exact Nat.le_refl _)]
theorem tt_1 (c : Nat) : Ch.tt 1 c = 0 := by
  unfold Ch.tt Ch.gt
  rw [rp_1, Ch.sum_zero]
  rfl
theorem tt_0 (c : Nat) : Ch.tt 0 c = 0 := by
  unfold Ch.tt Ch.gt
  rw [show Ch.rp 0 c = 0 from rfl, Ch.sum_zero]
  rfl
theorem sp_one {n : Nat} (hn : 2 ≤ n) (hn2 : n ≤ 1099511627776) : Ch.sp n 1 = ((n - 1 : Nat) : Int) := by
  unfold Ch.sp
  rw [Ch.rp_one n (by omega)]
  have e1 : ((1 : Nat) : Int) + ((n - 1 : Nat) : Int) - 2 = ((n - 2 : Nat) : Int) := by omega
  have e2 : ((1 : Nat) : Int) + ((n - 1 : Nat) : Int) - 1 = ((n - 1 : Nat) : Int) := by omega
  have e3 : ((1 : Nat) : Int) - 1 = ((0 : Nat) : Int) := rfl
  rw [e1, e2, e3]
  have c1 : Ch.ch ((n - 1 : Nat) : Int) ((0 : Nat) : Int) = 1 := by
    rw [Ch.ch_at (by omega) (by omega), Int.toNat_natCast, Int.toNat_natCast, Ch.bin_zero]; decide
  rw [c1]
  by_cases c : n = 2
  · subst c
    rw [Ch.ch_none (by omega)]; decide
  · rw [Ch.ch_at (by omega) (by omega), Int.toNat_natCast, Int.toNat_natCast, Ch.bin_one]
    omega
theorem rp_min {l s r : Nat} (hs : 1 ≤ s) (h : l ≤ Ch.be s r) : Ch.rp l s ≤ r := by
  apply Nat.le_of_not_lt
  intro h2
  have := Ch.rp_less l s hs h2
  omega
theorem sp_all (n c : Nat) (hc : 1 ≤ c) (hn : 2 ≤ n) (hn2 : n ≤ 65536) : ∃ m : Nat, Ch.sp n c = m ∧ 1 ≤ m ∧ m < n ∧ (c = 1 → n - m = 1) ∧ Ch.tt n c = m + Ch.tt (n - m) (c - 1) + Ch.tt m c ∧ Ch.rp m c + 1 ≤ Ch.rp n c ∧ Ch.rp (n - m) (c - 1) ≤ Ch.rp n c := by
  by_cases h1 : c = 1
  · subst h1
    refine ⟨n - 1, sp_one hn (by omega), by omega, by omega, fun _ => by omega, ?_, ?_, ?_⟩
    · rw [show n - (n - 1) = 1 by omega, tt_1, Ch.tt_one n (by omega), Ch.tt_one (n - 1) (by omega)]
      have e := Sd.tri_succ ((n - 1 : Nat) : Int)
      unfold Sd.tri at e
      rw [show ((n - 1 : Nat) : Int) + 1 = (n : Int) by omega] at e
      rw [e]
      omega
    · rw [Ch.rp_one n (by omega), Ch.rp_one (n - 1) (by omega)]; omega
    · rw [show n - (n - 1) = 1 by omega, rp_1]; omega
  · obtain ⟨m, e, q1, q2, q3, q4, q5, q6⟩ := Ch.sp_facts n c (by omega) hn (by omega)
    have hp := Ch.rp_pos (l := n) (s := c) (by omega) hn
    refine ⟨m, e, q1, q2, fun h => absurd h h1, Ch.tt_split n c m (by omega) hn q1 q3 q4 q5 q6, ?_, ?_⟩
    · have := rp_min (by omega) q4; omega
    · exact rp_min (by omega) (by omega)
/-- how often a step is done ahead, by a list -/
def oft (m : St) : List Mc.Act → Int → Nat
  | [], _ => 0
  | a :: l, x => (if a.1 = 1 ∧ m.at_ ≤ x ∧ x < m.at_ + a.2 then 1 else 0) + oft (Mc.step m a.1 a.2).1 l x
theorem oft_app : ∀ {l l' : List Mc.Act} {m m' : St} (x : Int), Does m l m' → oft m (l ++ l') x = oft m l x + oft m' l' x
  | [], l', m, m', x, h => by cases h; simp [oft]
  | a :: l, l', m, m', x, ⟨h2, h3⟩ => by
    simp only [List.cons_append, oft]
    rw [oft_app x h3]
    omega
/-- the greatest tag, told -/
theorem tmx_is {tags : List Int} {k : Nat} (hk : k < tags.length) {a : Int} (h : tags.getD k 0 = a) (h0 : -1 ≤ a) (h2 : ∀ i, i < tags.length → tags.getD i 0 ≤ a) : tmx tags tags.length = a := by
  have h3 := (Sd.tmx_ge tags tags.length).2 k hk
  have h4 := Sd.tmx_le tags a h0 tags.length h2
  omega
theorem set_back (tags : List Int) (k : Nat) (x : Int) (hk : k < tags.length) (h : tags.getD k 0 = -1) : (tags.set k x).set k (-1) = tags := by
  rw [List.set_set]
  apply List.ext_getElem (by simp)
  intro i h1 h2
  rw [List.getElem_set]
  split
  · rename_i e
    subst e
    simpa [hk] using h.symm
  · rfl

/-- what a list must bring -/
structure Part (l : Int) (n c : Nat) (a p tot : Int) (T T' : List Int) (L : List Mc.Act) : Prop where
  goes : Goes (nm l) ⟨l, a, p, tot, T⟩ L ⟨l, a, a, tot + Ch.tt n c, T'⟩
  oft : ∀ x, oft ⟨l, a, p, tot, T⟩ L x ≤ if a ≤ x ∧ x < a + n then Ch.rp n c else 0
theorem pt_part {f : Nat} (ih : ∀ (n c k : Nat) (T : List Int) (last : Bool) (l a p tot : Int), n ≤ f → 1 ≤ n → (n = 1 → last = false) → l < 65536 → 0 ≤ a → a + n ≤ l → (last = true → a + n = l) → p = (if last then -1 else a + n) →
      T.length ≤ 1048576 → (hk : k < T.length) → T.getD k 0 = a → (∀ i, i < T.length → -1 ≤ T.getD i 0 ∧ (T.getD i 0 < a ∨ i = k)) → vac T + 1 = c → Part l n c a p tot T (T.set k (-1)) (lp f n c k (hb T) last))
    (n c : Nat) (T : List Int) (last : Bool) (l a p tot : Int) (hf : n ≤ f) (hn : 1 ≤ n) (hl : l < 65536) (ha : 0 ≤ a) (hal : a + n ≤ l) (hla : last = true → a + n = l) (hp : p = (if last then -1 else a + n))
    (hT0 : 1 ≤ T.length) (hT : T.length ≤ 1048576) (ht : ∀ i, i < T.length → -1 ≤ T.getD i 0 ∧ T.getD i 0 < a) (hv : vac T = c) (hc : 2 ≤ n → 1 ≤ c) : Part l n c a p tot T T (pt f n c (hb T) last) := by
  have hB : tmx T T.length < a := by
    rcases Sd.tmx_base T with ⟨_, h⟩ | ⟨j, hj, _, h, h2, _⟩
    · rw [h]; omega
    · rw [h2]; exact (ht j hj).2
  have hB1 := (Sd.tmx_ge T T.length).1
  have hp2 : p = -1 ∧ last = true ∨ p = a + n ∧ last = false := by
    cases last
    · exact .inr ⟨by simpa using hp, rfl⟩
    · exact .inl ⟨by simpa using hp, rfl⟩
  have hen : en l p = a + n := by
    unfold en
    rcases hp2 with ⟨h, h2⟩ | ⟨h, h2⟩
    · rw [if_pos (by omega)]; have := hla h2; omega
    · rw [if_neg (by omega)]; exact h
  have hok : okS l a p T := ⟨⟨by omega, hl⟩, ⟨ha, by omega⟩, ⟨by omega, by omega⟩, ⟨hT0, hT⟩, fun i hi => by have := ht i hi; omega⟩
  unfold pt
  by_cases h1 : n = 1
  · subst h1
    rw [if_pos rfl]
    have hx : nm l ⟨l, a, p, tot, T⟩ = some (turn last) := by
      show rv l a p T = _
      rw [rv_ok hok]
      unfold rw0
      rw [hen, if_neg (by omega), if_neg (by omega), if_neg (by omega), if_pos (by omega)]
      rcases hp2 with ⟨h, h2⟩ | ⟨h, h2⟩
      · rw [if_neg (by omega), h2]; rfl
      · rw [if_pos (by omega), h2]; rfl
    have hs : Mc.step ⟨l, a, p, tot, T⟩ (turn last).1 (turn last).2 = (⟨l, a, a, tot, T⟩, 0) := by
      rcases hp2 with ⟨h, h2⟩ | ⟨h, h2⟩
      · rw [h2]
        exact Sd.step_both (m := ⟨l, a, p, tot, T⟩) h (by have := hla h2; show a = l - 1; omega)
      · rw [h2]
        exact Sd.step_rev (m := ⟨l, a, p, tot, T⟩) (by show 1 ≤ p; omega) (by show a = p - 1; omega)
    refine ⟨⟨hx, by rw [hs], ?_⟩, fun x => ?_⟩
    · rw [hs, tt_1, Int.add_zero]; rfl
    · have : (turn last).1 ≠ 1 := by cases last <;> decide
      simp only [oft, if_neg (fun h : _ ∧ _ => this h.1)]
      omega
  · rw [if_neg h1]
    have hv1 : 0 < vac T := by have := hc (by omega); omega
    have hsl := lst_slot (fun i hi => (ht i hi).1) hv1
    have hs0 := (vac_pos (fun i hi => (ht i hi).1)).1 hv1
    have hsn := Sd.slot_nn hs0
    rw [hsl, Int.toNat_natCast] at hsn
    generalize lst (hb T) = k at *
    have hx : nm l ⟨l, a, p, tot, T⟩ = some (2, (k : Int)) := by
      show rv l a p T = _
      rw [rv_ok hok]
      unfold rw0
      rw [hen, if_neg (by omega), if_neg (by omega), if_neg (by omega), if_neg (by omega)]
      by_cases hneg : tmx T T.length < 0
      · rw [if_pos hneg, if_pos (by omega)]
        have h0 : slot T (-1) = ((0 : Nat) : Int) := Sd.slot_is (by omega) (by have := (Sd.tmx_ge T T.length).2 0 (by omega); have := (ht 0 (by omega)).1; omega) (fun j hj => absurd hj (by omega))
        rw [hsl] at h0
        rw [h0]; rfl
      · rw [if_neg hneg, if_neg (by omega), if_pos (by omega), if_pos hv1, hsl]
    have hs : Mc.step ⟨l, a, p, tot, T⟩ 2 (k : Int) = (⟨l, a, p, tot, T.set k a⟩, 0) :=
      Sd.step_store (m := ⟨l, a, p, tot, T⟩) hsn.1 hT (by show T.getD k 0 < 0; rw [hsn.2]; decide)
    have hvs := vac_set T k a hsn.1
    rw [hsn.2, if_pos (by decide), if_neg (by omega)] at hvs
    have hI := ih n c k (T.set k a) last l a p tot hf hn (fun h => absurd h h1) hl ha hal hla hp (by rw [List.length_set]; exact hT) (by rw [List.length_set]; exact hsn.1)
      (by rw [getD_set _ _ _ _ hsn.1, if_pos rfl]) (fun i hi => by
        rw [List.length_set] at hi
        rw [getD_set _ _ _ _ hsn.1]
        by_cases e : i = k
        · rw [if_pos e]; exact ⟨by omega, .inr e⟩
        · rw [if_neg e]; exact ⟨(ht i hi).1, .inl (ht i hi).2⟩) (by omega)
    rw [set_back T k a hsn.1 hsn.2, hb_set, decide_eq_true ha] at hI
    refine ⟨⟨hx, by rw [hs], ?_⟩, fun x => ?_⟩
    · rw [hs]; exact hI.goes
    · have := hI.oft x
      show _ + oft (Mc.step ⟨l, a, p, tot, T⟩ 2 (k : Int)).1 _ x ≤ _
      rw [hs, if_neg (fun h => absurd h.1 (show (2 : Int) ≠ 1 by decide))]
      dsimp only
      omega
theorem lp_part : ∀ (f n c k : Nat) (T : List Int) (last : Bool) (l a p tot : Int), n ≤ f → 1 ≤ n → (n = 1 → last = false) → l < 65536 → 0 ≤ a → a + n ≤ l → (last = true → a + n = l) → p = (if last then -1 else a + n) →
      T.length ≤ 1048576 → (hk : k < T.length) → T.getD k 0 = a → (∀ i, i < T.length → -1 ≤ T.getD i 0 ∧ (T.getD i 0 < a ∨ i = k)) → vac T + 1 = c → Part l n c a p tot T (T.set k (-1)) (lp f n c k (hb T) last) := by
  intro f
  induction f with
  | zero => intro n c k T last l a p tot hf hn; omega
  | succ f ih =>
    intro n c k T last l a p tot hf hn h1 hl ha hal hla hp hT hk hTk ht hv
    have hB : tmx T T.length = a := tmx_is hk hTk (by omega) fun i hi => by
      rcases (ht i hi).2 with h | h
      · omega
      · rw [h, hTk]; exact Int.le_refl _
    have hsl : slot T a = (k : Int) := Sd.slot_is hk hTk fun j hj e => by
      rcases (ht j (by omega)).2 with h | h <;> omega
    have hp2 : p = -1 ∧ last = true ∨ p = a + n ∧ last = false := by
      cases last
      · exact .inr ⟨by simpa using hp, rfl⟩
      · exact .inl ⟨by simpa using hp, rfl⟩
    have hen : en l p = a + n := by
      unfold en
      rcases hp2 with ⟨h, h2⟩ | ⟨h, h2⟩
      · rw [if_pos (by omega)]; have := hla h2; omega
      · rw [if_neg (by omega)]; exact h
    have htl : ∀ i, i < T.length → -1 ≤ T.getD i 0 ∧ T.getD i 0 ≤ a := fun i hi => by
      rcases ht i hi with ⟨h, h2 | h2⟩
      · omega
      · rw [h2, hTk]; omega
    have hok : ∀ x q, 0 ≤ x → x ≤ l → -1 ≤ q → q ≤ l → okS l x q T := fun x q x0 x1 q0 q1 => ⟨⟨by omega, hl⟩, ⟨x0, x1⟩, ⟨q0, q1⟩, ⟨by omega, hT⟩, fun i hi => by have := htl i hi; omega⟩
    by_cases hn1 : n = 1
    · subst hn1
      have hlast := h1 rfl
      subst hlast
      have hp3 : p = a + 1 := by simpa using hp
      subst hp3
      rw [lp_one]
      have x1 : nm l ⟨l, a, a + 1, tot, T⟩ = some (7, 0) := by
        show rv l a (a + 1) T = _
        rw [rv_ok (hok _ _ (by omega) (by omega) (by omega) (by omega))]
        unfold rw0
        rw [hB, hen, if_neg (by omega), if_neg (by omega), if_neg (by omega), if_pos (by omega), if_pos (by omega)]
      have s1 : Mc.step ⟨l, a, a + 1, tot, T⟩ 7 0 = (⟨l, a, a, tot, T⟩, 0) :=
        Sd.step_rev (m := ⟨l, a, a + 1, tot, T⟩) (by show 1 ≤ a + 1; omega) (by show a = a + 1 - 1; omega)
      have x2 : nm l ⟨l, a, a, tot, T⟩ = some (4, (k : Int)) := by
        show rv l a a T = _
        rw [rv_ok (hok _ _ (by omega) (by omega) (by omega) (by omega))]
        unfold rw0
        rw [hB, show en l a = a by unfold en; rw [if_neg (by omega)], if_pos ⟨ha, Int.le_refl _⟩, hsl]
      have s2 : Mc.step ⟨l, a, a, tot, T⟩ 4 (k : Int) = (⟨l, a, a, tot, T.set k (-1)⟩, 0) :=
        Sd.step_free (m := ⟨l, a, a, tot, T⟩) hk hT (by show 0 ≤ T.getD k 0; omega)
      refine ⟨⟨x1, by rw [s1], by rw [s1]; exact x2, by rw [s1]; show (Mc.step _ 4 (k : Int)).2 = 0; rw [s2], ?_⟩, fun x => ?_⟩
      · rw [s1]
        show _ = (Mc.step _ 4 (k : Int)).1
        rw [s2, tt_1, Int.add_zero]
      · simp only [oft]
        rw [if_neg (fun h => absurd h.1 (by decide)), if_neg (fun h => absurd h.1 (by decide))]
        omega
    · rw [lp_more _ _ _ _ _ _ (by omega)]
      obtain ⟨m, hm, m1, m2, m3, m4, m5, m6⟩ := sp_all n c (by omega) (by omega) (by omega)
      rw [hm, Int.toNat_natCast]
      have x1 : nm l ⟨l, a, p, tot, T⟩ = some (1, (m : Int)) := by
        show rv l a p T = _
        rw [rv_ok (hok _ _ (by omega) (by omega) (by omega) (by omega))]
        unfold rw0
        rw [hB, hen, if_neg (by omega), if_neg (by omega), if_neg (by omega), if_neg (by omega), if_neg (by omega), if_neg (by omega), if_neg (by omega), hv, show (a + (n : Int) - a).toNat = n by omega, hm]
      have s1 : Mc.step ⟨l, a, p, tot, T⟩ 1 (m : Int) = (⟨l, a + m, p, tot + m, T⟩, 0) :=
        Sd.step_adv (m := ⟨l, a, p, tot, T⟩) (by omega) (by omega) (by show (m : Int) ≤ l - a; omega)
      have hP := pt_part ih (n - m) (c - 1) T last l (a + m) p (tot + m) (by omega) (by omega) hl (by omega) (by omega) (fun h => by have := hla h; omega) (by rw [hp]; cases last <;> simp; omega)
        (by omega) hT (fun i hi => by have := htl i hi; omega) (by omega) (fun h => by
          apply Classical.byContradiction
          intro h2
          have := m3 (by omega)
          omega)
      have x2 : nm l ⟨l, a + m, a + m, tot + m + Ch.tt (n - m) (c - 1), T⟩ = some (3, (k : Int)) := by
        show rv l (a + m) (a + m) T = _
        rw [rv_ok (hok _ _ (by omega) (by omega) (by omega) (by omega))]
        unfold rw0
        rw [hB, show en l (a + m) = a + m by unfold en; rw [if_neg (by omega)], if_neg (by omega), if_neg (by omega), if_neg (by omega), if_neg (by omega), if_neg (by omega), if_pos (by omega), hsl]
      have s2 : Mc.step ⟨l, a + m, a + m, tot + m + Ch.tt (n - m) (c - 1), T⟩ 3 (k : Int) = (⟨l, a, a + m, tot + m + Ch.tt (n - m) (c - 1), T⟩, 0) := by
        rw [Sd.step_restore (m := ⟨l, a + m, a + m, tot + m + Ch.tt (n - m) (c - 1), T⟩) hk hT (by show 0 ≤ T.getD k 0; omega)]
        show ((⟨l, T.getD k 0, a + m, _, T⟩ : St), (0 : Int)) = _
        rw [hTk]
      have hL := ih m c k T false l a (a + m) (tot + m + Ch.tt (n - m) (c - 1)) (by omega) m1 (fun _ => rfl) hl ha (by omega) (fun h => by cases h) rfl hT hk hTk ht hv
      have e : tot + m + Ch.tt (n - m) (c - 1) + Ch.tt m c = tot + Ch.tt n c := by omega
      refine ⟨⟨x1, by show (Mc.step _ 1 (m : Int)).2 = 0; rw [s1], ?_⟩, fun x => ?_⟩
      · show Goes (nm l) (Mc.step _ 1 (m : Int)).1 _ _
        rw [s1]
        refine hP.goes.trans ⟨x2, by show (Mc.step _ 3 (k : Int)).2 = 0; rw [s2], ?_⟩
        show Goes (nm l) (Mc.step _ 3 (k : Int)).1 _ _
        rw [s2, ← e]
        exact hL.goes
      · have q1 := hP.oft x
        have q2 := hL.oft x
        show (if (1 : Int) = 1 ∧ a ≤ x ∧ x < a + m then 1 else 0) + oft (Mc.step ⟨l, a, p, tot, T⟩ 1 (m : Int)).1 _ x ≤ _
        rw [s1, oft_app x hP.goes.does]
        show _ + (_ + ((if (3 : Int) = 1 ∧ _ then 1 else 0) + oft (Mc.step _ 3 (k : Int)).1 _ x)) ≤ _
        rw [s2, if_neg (c := (3 : Int) = 1 ∧ _) (fun h => absurd h.1 (by decide))]
        dsimp only
        split at q1 <;> split at q2 <;> split <;> split <;> omega
/-- the schedule of a chain -/
def rl (l n : Nat) : List Mc.Act := if l = 0 then [(5, 0)] else pt l l n (List.replicate n false) true
theorem rep_get {n i : Nat} (h : i < n) : (List.replicate n (-1 : Int)).getD i 0 = -1 := by simp [h]
theorem vac_rep (n : Nat) : vac (List.replicate n (-1)) = n := by
  induction n with
  | zero => rfl
  | succ n ih => rw [List.replicate_succ, vac, ih, if_pos (by decide)]; omega
theorem rl_part {l n : Nat} (h0 : 1 ≤ l) (hl : l < 65536) (hn : 1 ≤ n ∧ n ≤ 1048576) : Part l l n 0 (-1) 0 (List.replicate n (-1)) (List.replicate n (-1)) (rl l n) := by
  unfold rl
  rw [if_neg (by omega), ← hb_new]
  exact pt_part (lp_part l) l n (List.replicate n (-1)) true l 0 (-1) 0 (Nat.le_refl _) h0 (by omega) (by omega) (by omega) (fun _ => by omega) rfl (by simpa using hn.1) (by simpa using hn.2)
    (fun i hi => by rw [rep_get (by simpa using hi)]; omega) (vac_rep n) (fun _ => hn.1)
theorem end_ (l : Int) (tot : Int) (n : Nat) : nm l ⟨l, 0, 0, tot, List.replicate n (-1)⟩ = none := by
  show rv l 0 0 (List.replicate n (-1)) = none
  by_cases h : okS l 0 0 (List.replicate n (-1))
  · rw [rv_ok h]
    unfold rw0
    have : tmx (List.replicate n (-1)) (List.replicate n (-1 : Int)).length ≤ -1 := Sd.tmx_le _ _ (by omega) _ fun i hi => by rw [rep_get (by simpa using hi)]; exact Int.le_refl _
    rw [show en l 0 = 0 from rfl, if_neg (by omega), if_pos rfl]
  · exact rv_no h
theorem rl_goes {l n : Nat} (hl : l < 65536) (hn : 1 ≤ n ∧ n ≤ 1048576) : Goes (nm l) (Mc.new l n) (rl l n) ⟨l, 0, 0, Ch.tt l n, List.replicate n (-1)⟩ := by
  by_cases h0 : l = 0
  · subst h0
    have hx : nm (0 : Nat) (Mc.new (0 : Nat) n) = some (5, 0) := by
      show rv 0 0 (-1) (List.replicate n (-1)) = _
      have hok : okS 0 0 (-1) (List.replicate n (-1)) := ⟨⟨by omega, by omega⟩, ⟨by omega, by omega⟩, ⟨by omega, by omega⟩, ⟨by simpa using hn.1, by simpa using hn.2⟩, fun i hi => by rw [rep_get (by simpa using hi)]; omega⟩
      rw [rv_ok hok]
      unfold rw0
      rw [if_neg (by omega), if_neg (by omega), if_pos ⟨by omega, rfl⟩]
    have hs : Mc.step (Mc.new (0 : Nat) n) 5 0 = (⟨((0 : Nat) : Int), 0, 0, 0, List.replicate n (-1)⟩, 0) := Sd.step_seed (m := Mc.new (0 : Nat) n) rfl rfl
    refine ⟨hx, by rw [hs], ?_⟩
    rw [hs, tt_0]
    rfl
  · have := (rl_part (by omega) hl hn).goes
    rw [Int.zero_add] at this
    exact this
theorem rl_runs {l n : Nat} (hl : l < 65536) (hn : 1 ≤ n ∧ n ≤ 1048576) : Runs (nm l) (Mc.new l n) (rl l n) ⟨l, 0, 0, Ch.tt l n, List.replicate n (-1)⟩ := by
  have := (rl_goes hl hn).run (Runs.stop (end_ l (Ch.tt l n) n))
  rwa [List.append_nil] at this
theorem rl_check {l n : Nat} (hl : l < 65536) (hn : 1 ≤ n ∧ n ≤ 1048576) : Mc.check l n (rl l n) = (Ch.tt l n, ((rl l n).length : Int), 0) := by
  unfold Mc.check
  rw [if_pos ⟨by omega, by omega, by omega, by omega⟩, Int.toNat_natCast, (rl_goes hl hn).does.chk 0, if_pos rfl]
  simp
theorem rl_oft {l n : Nat} (h0 : 1 ≤ l) (hl : l < 65536) (hn : 1 ≤ n ∧ n ≤ 1048576) (x : Int) : oft (Mc.new l n) (rl l n) x ≤ Ch.rp l n := by
  have := (rl_part h0 hl hn).oft x
  exact Nat.le_trans this (by split <;> omega)
/-- kinds and length -/
theorem lp_cnk : ∀ (f n c k : Nat) (own : List Bool) (last : Bool), n ≤ f → 1 ≤ n → (n = 1 → last = false) → 1 ≤ c → n ≤ 65536 →
    cnk 5 (lp f n c k own last) = 0 ∧ cnk 6 (lp f n c k own last) = (if last then 1 else 0) ∧ cnk 7 (lp f n c k own last) + (if last then 1 else 0) = n ∧ (lp f n c k own last).length + 3 ≤ 5 * n := by
  intro f
  induction f with
  | zero => intro n c k own last hf hn; omega
  | succ f ih =>
    intro n c k own last hf hn h1 hc hn2
    by_cases hn1 : n = 1
    · subst hn1
      have := h1 rfl
      subst this
      rw [lp_one]
      simp [cnk]
    · rw [lp_more _ _ _ _ _ _ (by omega)]
      obtain ⟨m, hm, m1, m2, m3, _⟩ := sp_all n c (by omega) (by omega) (by omega)
      rw [hm, Int.toNat_natCast]
      have hL := ih m c k own false (by omega) m1 (fun _ => rfl) hc (by omega)
      have hP : cnk 5 (pt f (n - m) (c - 1) own last) = 0 ∧ cnk 6 (pt f (n - m) (c - 1) own last) = (if last then 1 else 0) ∧ cnk 7 (pt f (n - m) (c - 1) own last) + (if last then 1 else 0) = ((n - m : Nat) : Int) ∧ (pt f (n - m) (c - 1) own last).length + 2 ≤ 5 * (n - m) := by
        unfold pt
        by_cases e : n - m = 1
        · rw [if_pos e, e]
          cases last <;> simp [turn, cnk]
        · rw [if_neg e]
          have := ih (n - m) (c - 1) (lst own) (own.set (lst own) true) last (by omega) (by omega) (fun h => absurd h e) (by
            apply Classical.byContradiction
            intro h2
            exact e (m3 (by omega))) (by omega)
          simp only [cnk, List.length_cons]
          omega
      simp only [cnk, Sd.cnk_app, List.length_cons, List.length_append]
      simp only [Bool.false_eq_true, if_false] at hL
      omega
theorem rl_cnk {l n : Nat} (h0 : 1 ≤ l) (hl : l < 65536) (hn : 1 ≤ n) : cnk 5 (rl l n) = 0 ∧ cnk 6 (rl l n) = 1 ∧ cnk 7 (rl l n) = (l : Int) - 1 := by
  unfold rl
  rw [if_neg (by omega)]
  unfold pt
  by_cases e : l = 1
  · subst e
    rw [if_pos rfl]
    simp [turn, cnk]
  · rw [if_neg e]
    have := lp_cnk l l n (lst (List.replicate n false)) ((List.replicate n false).set (lst (List.replicate n false)) true) true (Nat.le_refl _) h0 (fun h => absurd h e) hn (by omega)
    simp only [cnk]
    simp only [if_true] at this
    omega
theorem rl_len {l n : Nat} (hl : l < 65536) (hn : 1 ≤ n) : (rl l n).length ≤ 5 * l + 1 := by
  unfold rl
  by_cases h0 : l = 0
  · rw [if_pos h0]; simp
  rw [if_neg h0]
  unfold pt
  by_cases e : l = 1
  · rw [if_pos e]; simp
  · rw [if_neg e]
    have := lp_cnk l l n (lst (List.replicate n false)) ((List.replicate n false).set (lst (List.replicate n false)) true) true (Nat.le_refl _) (by omega) (fun h => absurd h e) hn (by omega)
    simp only [List.length_cons]
    omega
theorem rl_even {l n : Nat} (hl : l < 65536) (hn : 1 ≤ n ∧ n ≤ 1048576) : cnk 2 (rl l n) = cnk 4 (rl l n) := by
  have h := Sd.does_cnt (rl_goes hl hn).does (Mc.new_inv l n (by omega) (by omega) hn.2)
  have h0 : Mc.cnt (Mc.new l n).tags = 0 := Mc.cnt_new n
  rw [h0] at h
  rw [show (⟨l, 0, 0, Ch.tt l n, List.replicate n (-1)⟩ : St).tags = (Mc.new l n).tags from rfl, h0] at h
  omega
end Rv
end Go.Proofs.Ytgadkelldbibgaa

/- What is seen of a spot, slot by slot. No program. -/
namespace Go.Proofs.Ytgadkelldbibgaa
set_option linter.unusedVariables false
namespace Rv
open Sd (slot tmx)
/-- the slot of the greatest tag, the first that holds nothing, how many, of the first k -/
def lkS (tags : List Int) : Nat → Int
  | 0 => 0
  | k + 1 => if tmx tags k < tags.getD k 0 then k else lkS tags k
def lkV (tags : List Int) : Nat → Int
  | 0 => -1
  | k + 1 => if tags.getD k 0 < 0 ∧ lkV tags k < 0 then k else lkV tags k
def lkN (tags : List Int) : Nat → Int
  | 0 => 0
  | k + 1 => lkN tags k + if tags.getD k 0 < 0 then 1 else 0
theorem lkN_b (tags : List Int) (k : Nat) : 0 ≤ lkN tags k ∧ lkN tags k ≤ k := by
  induction k with
  | zero => exact ⟨Int.le_refl _, Int.le_refl _⟩
  | succ k ih => simp only [lkN]; split <;> omega
theorem lkN_cons (x : Int) (l : List Int) (k : Nat) : lkN (x :: l) (k + 1) = (if x < 0 then 1 else 0) + lkN l k := by
  induction k with
  | zero => simp [lkN]
  | succ k ih => rw [lkN, ih, lkN]; simp only [List.getD_cons_succ]; omega
theorem lkN_all (tags : List Int) : lkN tags tags.length = vac tags := by
  induction tags with
  | nil => rfl
  | cons x l ih => rw [List.length_cons, lkN_cons, ih, vac]; split <;> omega
theorem lkV_is (tags : List Int) (k : Nat) : (lkV tags k = -1 ∧ ∀ j, j < k → ¬ tags.getD j 0 < 0) ∨ ∃ i : Nat, i < k ∧ lkV tags k = i ∧ tags.getD i 0 < 0 ∧ ∀ j, j < i → ¬ tags.getD j 0 < 0 := by
  induction k with
  | zero => exact .inl ⟨rfl, fun j h => absurd h (by omega)⟩
  | succ k ih =>
    simp only [lkV]
    rcases ih with ⟨h1, h2⟩ | ⟨i, hi, h1, h2, h3⟩
    · by_cases c : tags.getD k 0 < 0
      · rw [if_pos ⟨c, by omega⟩]
        exact .inr ⟨k, by omega, rfl, c, h2⟩
      · rw [if_neg fun h => c h.1]
        refine .inl ⟨h1, fun j hj => ?_⟩
        rcases (show j < k ∨ j = k by omega) with h | rfl
        · exact h2 j h
        · exact c
    · rw [if_neg fun h => by omega]
      exact .inr ⟨i, by omega, h1, h2, h3⟩
theorem lkV_all {tags : List Int} (ht : ∀ i, i < tags.length → -1 ≤ tags.getD i 0) : lkV tags tags.length = slot tags (-1) := by
  rcases lkV_is tags tags.length with ⟨h1, h2⟩ | ⟨i, hi, h1, h2, h3⟩
  · rw [h1, Sd.slot_none fun j hj e => h2 j hj (by omega)]
  · rw [h1, Sd.slot_is hi (by have := ht i hi; omega) fun j hj e => h3 j hj (by omega)]
theorem lkS_is (tags : List Int) (k : Nat) : (tmx tags k = -1 ∧ lkS tags k = 0) ∨ ∃ i : Nat, i < k ∧ lkS tags k = i ∧ tags.getD i 0 = tmx tags k ∧ ∀ j, j < i → tags.getD j 0 ≠ tmx tags k := by
  induction k with
  | zero => exact .inl ⟨rfl, rfl⟩
  | succ k ih =>
    simp only [lkS, tmx]
    have hg := (Sd.tmx_ge tags k).2
    have hg1 := (Sd.tmx_ge tags k).1
    by_cases c : tmx tags k < tags.getD k 0
    · rw [if_pos c]
      refine .inr ⟨k, by omega, rfl, by omega, fun j hj e => ?_⟩
      have := hg j hj
      omega
    · rw [if_neg c]
      have e : max (tmx tags k) (tags.getD k 0) = tmx tags k := by omega
      rw [e]
      rcases ih with ⟨h1, h2⟩ | ⟨i, hi, h1, h2, h3⟩
      · exact .inl ⟨h1, h2⟩
      · exact .inr ⟨i, by omega, h1, h2, h3⟩
theorem lkS_all {tags : List Int} (h : 0 ≤ tmx tags tags.length) : lkS tags tags.length = slot tags (tmx tags tags.length) := by
  rcases lkS_is tags tags.length with ⟨h1, h2⟩ | ⟨i, hi, h1, h2, h3⟩
  · omega
  · rw [h1, Sd.slot_is hi h2 h3]
theorem lkS_b (tags : List Int) (k : Nat) : 0 ≤ lkS tags k ∧ lkS tags k ≤ k := by
  rcases lkS_is tags k with ⟨h1, h2⟩ | ⟨i, hi, h1, h2, h3⟩ <;> omega
theorem lkV_b (tags : List Int) (k : Nat) : -1 ≤ lkV tags k ∧ lkV tags k ≤ k := by
  rcases lkV_is tags k with ⟨h1, h2⟩ | ⟨i, hi, h1, h2, h3⟩ <;> omega
end Rv
end Go.Proofs.Ytgadkelldbibgaa

/- The rules of a next action, by their numbers. No program. -/
namespace Go.Proofs.Ytgadkelldbibgaa
set_option linter.unusedVariables false
namespace Rv
open Sd (slot tmx)
/-- what the rules ask, and what they answer, by their numbers -/
def cn (l a p e B f : Int) : Nat → Bool
  | 0 => decide (0 ≤ p) && decide (e ≤ B)
  | 1 => decide (p = 0)
  | 2 => decide (p < 0) && decide (a = l)
  | 3 => decide (a = e - 1)
  | 4 => decide (B < 0)
  | 5 => decide (a < B) || decide (e ≤ a)
  | 6 => decide (B < a) && decide (0 < f)
  | 7 => decide (B < a)
  | _ => true
def rs (a p e B s c : Int) (f : Nat) : Nat → Option Mc.Act
  | 0 => some (4, s)
  | 1 => none
  | 2 => some (5, 0)
  | 3 => some (if 0 ≤ p then 7 else 6, 0)
  | 4 => if a < e then some (2, 0) else none
  | 5 => some (3, s)
  | 6 => some (2, c)
  | 7 => some (1, e - 1 - a)
  | _ => some (1, Ch.sp (e - B).toNat (f + 1))
theorem rs_pick {l a p : Int} {tags : List Int} (ht : ∀ i, i < tags.length → -1 ≤ tags.getD i 0) (k : Nat) (hk : k ≤ 8)
    (h : ∀ j, j < k → cn l a p (en l p) (tmx tags tags.length) (lkN tags tags.length) j = false) (hc : cn l a p (en l p) (tmx tags tags.length) (lkN tags tags.length) k = true) :
    rw0 l a p tags = rs a p (en l p) (tmx tags tags.length) (lkS tags tags.length) (lkV tags tags.length) (vac tags) k := by
  have hS : 0 ≤ tmx tags tags.length → lkS tags tags.length = slot tags (tmx tags tags.length) := lkS_all
  have hen : 0 ≤ p → en l p = p := fun h => by unfold en; rw [if_neg (by omega)]
  rw [lkV_all ht]
  rw [lkN_all] at h hc
  unfold rw0
  generalize tmx tags tags.length = B at *
  generalize lkS tags tags.length = s at *
  generalize slot tags (-1) = v at *
  generalize en l p = e at *
  have h0 := fun (g : 0 < k) => h 0 g
  have h1 := fun (g : 1 < k) => h 1 g
  have h2 := fun (g : 2 < k) => h 2 g
  have h3 := fun (g : 3 < k) => h 3 g
  have h4 := fun (g : 4 < k) => h 4 g
  have h5 := fun (g : 5 < k) => h 5 g
  have h6 := fun (g : 6 < k) => h 6 g
  have h7 := fun (g : 7 < k) => h 7 g
  clear h
  rcases (show k = 0 ∨ k = 1 ∨ k = 2 ∨ k = 3 ∨ k = 4 ∨ k = 5 ∨ k = 6 ∨ k = 7 ∨ k = 8 by omega) with rfl | rfl | rfl | rfl | rfl | rfl | rfl | rfl | rfl <;>
    simp only [cn, rs, Bool.and_eq_true, Bool.or_eq_true, Bool.and_eq_false_iff, Bool.or_eq_false_iff, decide_eq_true_eq, decide_eq_false_iff_not] at *
  · rw [if_pos hc, hS (by have := hen hc.1; omega)]
  · have := h0 (by omega); rw [if_neg (by omega), if_pos hc]
  · have := h0 (by omega); have := h1 (by omega); rw [if_neg (by omega), if_neg (by omega), if_pos hc]
  · have := h0 (by omega); have := h1 (by omega); have := h2 (by omega); rw [if_neg (by omega), if_neg (by omega), if_neg (by omega), if_pos hc]
  · have := h0 (by omega); have := h1 (by omega); have := h2 (by omega); have := h3 (by omega); rw [if_neg (by omega), if_neg (by omega), if_neg (by omega), if_neg (by omega), if_pos hc]
  · have := h0 (by omega); have := h1 (by omega); have := h2 (by omega); have := h3 (by omega); have := h4 (by omega)
    rw [if_neg (by omega), if_neg (by omega), if_neg (by omega), if_neg (by omega), if_neg (by omega), if_pos hc, hS (by omega)]
  · have := h0 (by omega); have := h1 (by omega); have := h2 (by omega); have := h3 (by omega); have := h4 (by omega); have := h5 (by omega)
    rw [if_neg (by omega), if_neg (by omega), if_neg (by omega), if_neg (by omega), if_neg (by omega), if_neg (by omega), if_pos hc.1, if_pos (by omega)]
  · have := h0 (by omega); have := h1 (by omega); have := h2 (by omega); have := h3 (by omega); have := h4 (by omega); have := h5 (by omega); have := h6 (by omega)
    rw [if_neg (by omega), if_neg (by omega), if_neg (by omega), if_neg (by omega), if_neg (by omega), if_neg (by omega), if_pos hc, if_neg (by omega)]
  · have := h0 (by omega); have := h1 (by omega); have := h2 (by omega); have := h3 (by omega); have := h4 (by omega); have := h5 (by omega); have := h6 (by omega); have := h7 (by omega)
    rw [if_neg (by omega), if_neg (by omega), if_neg (by omega), if_neg (by omega), if_neg (by omega), if_neg (by omega), if_neg (by omega)]
end Rv
end Go.Proofs.Ytgadkelldbibgaa

/- Runs of a machine, of at most so many actions. No program. -/
namespace Go.Proofs.Ytgadkelldbibgaa
set_option linter.unusedVariables false
namespace Mc
/-- a run, behind k actions, of at most so many in all (below 0: as many as come) -/
def RunsM (nx : St → Option Act) (most : Int) : Nat → St → List Act → St → Prop
  | k, m, [], m' => m' = m ∧ ((k : Int) = most ∨ ((k : Int) ≠ most ∧ (nx m = none ∨ ∃ a, nx m = some a ∧ (step m a.1 a.2).2 ≠ 0)))
  | k, m, a :: l, m' => (k : Int) ≠ most ∧ nx m = some a ∧ (step m a.1 a.2).2 = 0 ∧ RunsM nx most (k + 1) (step m a.1 a.2).1 l m'
theorem Runs.all {nx : St → Option Act} : ∀ {l : List Act} {m m' : St} (k : Nat), Runs nx m l m' → RunsM nx (-1) k m l m'
  | [], m, m', k, h => ⟨h.1, .inr ⟨by omega, h.2⟩⟩
  | a :: l, m, m', k, ⟨h1, h2, h3⟩ => ⟨by omega, h1, h2, Runs.all (k + 1) h3⟩
theorem Runs.most {nx : St → Option Act} {most : Int} : ∀ {l : List Act} {m m' : St} (k : Nat), Runs nx m l m' → ((k + l.length : Nat) : Int) ≤ most → RunsM nx most k m l m'
  | [], m, m', k, h, hk => ⟨h.1, by
    by_cases e : (k : Int) = most
    · exact .inl e
    · exact .inr ⟨e, h.2⟩⟩
  | a :: l, m, m', k, ⟨h1, h2, h3⟩, hk => by
    simp only [List.length_cons] at hk
    exact ⟨by omega, h1, h2, Runs.most (k + 1) h3 (by omega)⟩
theorem RunsM.ex (nx : St → Option Act) (most : Nat) : ∀ (d k : Nat) (m : St), k + d = most → ∃ l m', RunsM nx most k m l m' ∧ k + l.length ≤ most := by
  intro d
  induction d with
  | zero => intro k m h; exact ⟨[], m, ⟨rfl, .inl (by omega)⟩, by simp; omega⟩
  | succ d ih =>
    intro k m h
    cases e : nx m with
    | none => exact ⟨[], m, ⟨rfl, .inr ⟨by omega, .inl e⟩⟩, by simp; omega⟩
    | some a =>
      by_cases c : (step m a.1 a.2).2 = 0
      · obtain ⟨l, m', h1, h2⟩ := ih (k + 1) (step m a.1 a.2).1 (by omega)
        exact ⟨a :: l, m', ⟨by omega, e, c, h1⟩, by simp only [List.length_cons]; omega⟩
      · exact ⟨[], m, ⟨rfl, .inr ⟨by omega, .inr ⟨a, e, c⟩⟩⟩, by simp; omega⟩
/-- the total plays no part -/
theorem step_free (m : St) (t k n : Int) : ∃ t', step { m with tot := t } k n = ({ (step m k n).1 with tot := t' }, (step m k n).2) := by
  obtain ⟨l, a, p, s, T⟩ := m
  unfold step begin_ reverse St.tag
  dsimp only
  by_cases c1 : right k n = false ∨ 7 < k
  · simp only [if_pos c1]; exact ⟨_, rfl⟩
  by_cases c2 : 2 ≤ k ∧ k ≤ 4 ∧ (T.length : Int) ≤ n
  · simp only [if_neg c1, if_pos c2]; exact ⟨_, rfl⟩
  simp only [if_neg c1, if_neg c2]
  by_cases e1 : k = 1
  · simp only [if_pos e1]
    by_cases d : l - a < n
    · simp only [if_pos d]; exact ⟨_, rfl⟩
    · simp only [if_neg d]; exact ⟨_, rfl⟩
  simp only [if_neg e1]
  by_cases e2 : k = 2
  · simp only [if_pos e2]
    by_cases d : 0 ≤ T.getD n.toNat 0
    · simp only [if_pos d]; exact ⟨_, rfl⟩
    · simp only [if_neg d]; exact ⟨_, rfl⟩
  simp only [if_neg e2]
  by_cases e3 : k = 3
  · simp only [if_pos e3]
    by_cases d : T.getD n.toNat 0 < 0
    · simp only [if_pos d]; exact ⟨_, rfl⟩
    · simp only [if_neg d]; exact ⟨_, rfl⟩
  simp only [if_neg e3]
  by_cases e4 : k = 4
  · simp only [if_pos e4]
    by_cases d : T.getD n.toNat 0 < 0
    · simp only [if_pos d]; exact ⟨_, rfl⟩
    · simp only [if_neg d]; exact ⟨_, rfl⟩
  simp only [if_neg e4]
  by_cases e5 : k = 5
  · simp only [if_pos e5]
    by_cases d : p ≠ -1
    · simp only [if_pos d]; exact ⟨_, rfl⟩
    · by_cases d2 : a ≠ l - 0
      · simp only [if_neg d, if_pos d2]; exact ⟨_, rfl⟩
      · simp only [if_neg d, if_neg d2]; exact ⟨_, rfl⟩
  simp only [if_neg e5]
  by_cases e6 : k = 6
  · simp only [if_pos e6]
    by_cases d : p ≠ -1
    · simp only [if_pos d]; exact ⟨_, rfl⟩
    · by_cases d2 : a ≠ l - 1
      · simp only [if_neg d, if_pos d2]; exact ⟨_, rfl⟩
      · simp only [if_neg d, if_neg d2]; exact ⟨_, rfl⟩
  simp only [if_neg e6]
  by_cases d : p ≤ 0
  · simp only [if_pos d]; exact ⟨_, rfl⟩
  · by_cases d2 : a ≠ p - 1
    · simp only [if_neg d, if_pos d2]; exact ⟨_, rfl⟩
    · simp only [if_neg d, if_neg d2]; exact ⟨_, rfl⟩
theorem RunsM.free {nx : St → Option Act} (hnx : ∀ m t, nx { m with tot := t } = nx m) {most : Int} : ∀ {l : List Act} {k : Nat} {m m' : St} (t : Int), RunsM nx most k m l m' → ∃ t', RunsM nx most k { m with tot := t } l { m' with tot := t' }
  | [], k, m, m', t, ⟨h1, h2⟩ => by
    subst h1
    refine ⟨t, rfl, h2.imp id fun ⟨h3, h4⟩ => ⟨h3, ?_⟩⟩
    rw [hnx]
    refine h4.imp id fun ⟨a, h5, h6⟩ => ⟨a, h5, ?_⟩
    obtain ⟨t', e⟩ := step_free m' t a.1 a.2
    rw [e]; exact h6
  | a :: l, k, m, m', t, ⟨h1, h2, h3, h4⟩ => by
    obtain ⟨t1, e⟩ := step_free m t a.1 a.2
    obtain ⟨t2, h5⟩ := RunsM.free hnx t1 h4
    refine ⟨t2, h1, by rw [hnx]; exact h2, by rw [e]; exact h3, ?_⟩
    rw [e]
    exact h5
end Mc
theorem Rv.nm_free (l : Int) (m : Mc.St) (t : Int) : Rv.nm l { m with tot := t } = Rv.nm l m := rfl
end Go.Proofs.Ytgadkelldbibgaa
