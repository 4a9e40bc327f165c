/- What slots hold behind each step of a stride's schedule, and the schedule's actions. No program. -/
import Derived.Test.YtkdamcacmecnaaaPlainU
namespace Go.Proofs.Ytkdamcacmecnaaa
set_option linter.unusedVariables false
namespace Sd
open Mc (St Act step Goes Runs Does)

/-- just those of P are held, each by one slot -/
structure Held (P : Int → Prop) (tags : List Int) : Prop where
  all : ∀ j, j < tags.length → tags.getD j 0 = -1 ∨ (0 ≤ tags.getD j 0 ∧ P (tags.getD j 0))
  has : ∀ t, 0 ≤ t → P t → ∃ j, j < tags.length ∧ tags.getD j 0 = t
  one : ∀ i j, i < tags.length → j < tags.length → tags.getD i 0 = tags.getD j 0 → 0 ≤ tags.getD i 0 → i = j
theorem getD_set (tags : List Int) (k j : Nat) (x : Int) (hk : k < tags.length) : (tags.set k x).getD j 0 = if j = k then x else tags.getD j 0 := by
  by_cases e : j = k
  · subst e; simp [hk]
  · rw [if_neg e]; simp [List.getD_eq_getElem?_getD, List.getElem?_set_ne (Ne.symm e)]
theorem Held.cong {P Q : Int → Prop} {tags : List Int} (h : Held P tags) (e : ∀ t, 0 ≤ t → (P t ↔ Q t)) : Held Q tags :=
  ⟨fun j hj => (h.all j hj).imp id fun ⟨a, b⟩ => ⟨a, (e _ a).1 b⟩, fun t h0 q => h.has t h0 ((e t h0).2 q), h.one⟩
theorem Held.free {P : Int → Prop} {tags : List Int} (h : Held P tags) {k : Nat} (hk : k < tags.length) (h0 : 0 ≤ tags.getD k 0) : Held (fun t => P t ∧ t ≠ tags.getD k 0) (tags.set k (-1)) := by
  refine ⟨fun j hj => ?_, fun t ht ⟨q, ne⟩ => ?_, fun i j hi hj e hn => ?_⟩
  · rw [List.length_set] at hj
    rw [getD_set _ _ _ _ hk]
    by_cases e : j = k
    · rw [if_pos e]; exact .inl rfl
    · rw [if_neg e]
      rcases h.all j hj with a | ⟨a, b⟩
      · exact .inl a
      · exact .inr ⟨a, b, fun e2 => e (h.one j k hj hk e2 a)⟩
  · obtain ⟨j, hj, e⟩ := h.has t ht q
    refine ⟨j, by rw [List.length_set]; exact hj, ?_⟩
    rw [getD_set _ _ _ _ hk, if_neg fun e2 => ne (by rw [← e, e2])]
    exact e
  · rw [List.length_set] at hi hj
    rw [getD_set _ _ _ _ hk] at hn
    rw [getD_set _ _ _ _ hk, getD_set _ _ _ _ hk] at e
    by_cases c : i = k
    · rw [if_pos c] at hn; omega
    · rw [if_neg c] at e hn
      by_cases c2 : j = k
      · rw [if_pos c2] at e; omega
      · rw [if_neg c2] at e; exact h.one i j hi hj e hn
theorem Held.store {P : Int → Prop} {tags : List Int} (h : Held P tags) {k : Nat} (hk : k < tags.length) (h0 : tags.getD k 0 = -1) {x : Int} (hx : 0 ≤ x) (hP : ¬ P x) : Held (fun t => P t ∨ t = x) (tags.set k x) := by
  refine ⟨fun j hj => ?_, fun t ht q => ?_, fun i j hi hj e hn => ?_⟩
  · rw [List.length_set] at hj
    rw [getD_set _ _ _ _ hk]
    by_cases e : j = k
    · rw [if_pos e]; exact .inr ⟨hx, .inr rfl⟩
    · rw [if_neg e]
      rcases h.all j hj with a | ⟨a, b⟩
      · exact .inl a
      · exact .inr ⟨a, .inl b⟩
  · by_cases c : t = x
    · exact ⟨k, by rw [List.length_set]; exact hk, by rw [getD_set _ _ _ _ hk, if_pos rfl, c]⟩
    · obtain ⟨j, hj, e⟩ := h.has t ht (q.resolve_right c)
      refine ⟨j, by rw [List.length_set]; exact hj, ?_⟩
      rw [getD_set _ _ _ _ hk, if_neg fun e2 => by rw [e2, h0] at e; omega]
      exact e
  · rw [List.length_set] at hi hj
    rw [getD_set _ _ _ _ hk] at hn
    rw [getD_set _ _ _ _ hk, getD_set _ _ _ _ hk] at e
    have key : ∀ q, q < tags.length → tags.getD q 0 = x → False := fun q hq e => by
      rcases h.all q hq with a | ⟨a, b⟩
      · omega
      · exact hP (e ▸ b)
    by_cases c : i = k
    · by_cases c2 : j = k
      · rw [c, c2]
      · rw [if_pos c, if_neg c2] at e; exact absurd e.symm (key j hj)
    · rw [if_neg c] at e hn
      by_cases c2 : j = k
      · rw [if_pos c2] at e; exact absurd e (key i hi)
      · rw [if_neg c2] at e; exact h.one i j hi hj e hn
theorem Held.new (n : Nat) : Held (fun _ => False) (List.replicate n (-1)) := by
  have e : ∀ j, j < n → (List.replicate n (-1 : Int)).getD j 0 = -1 := fun j hj => by simp [hj]
  refine ⟨fun j hj => .inl (e j (by simpa using hj)), fun t _ h => h.elim, fun i j hi hj _ h => ?_⟩
  rw [e i (by simpa using hi)] at h
  omega
theorem Held.sl1 {P : Int → Prop} {tags : List Int} (h : Held P tags) {t : Int} (h0 : 0 ≤ t) : (P t → 0 ≤ slot tags t) ∧ (¬ P t → slot tags t = -1) := by
  refine ⟨fun hp => ?_, fun hp => slot_none fun j hj e => ?_⟩
  · obtain ⟨j, hj, e⟩ := h.has t h0 hp
    rcases slot_cases tags t with ⟨_, h2⟩ | ⟨k, _, h2, _⟩
    · exact absurd e (h2 j hj)
    · omega
  · rcases h.all j hj with a | ⟨a, b⟩
    · omega
    · exact hp (e ▸ b)
/-- how many are held: those of P below a bound -/
theorem cnt_sum (M : Nat) : ∀ tags : List Int, (∀ x ∈ tags, x < M) → tags.Pairwise (fun a b => 0 ≤ a → a ≠ b) → (Mc.cnt tags : Int) = Mc.sum (fun t => if (t : Int) ∈ tags then 1 else 0) M := by
  intro tags
  induction tags with
  | nil => intro _ _; rw [show (fun (t : Nat) => if (t : Int) ∈ ([] : List Int) then (1 : Int) else 0) = fun _ => 0 by funext t; simp, Mc.sum_zero]; rfl
  | cons x l ih =>
    intro h1 h2
    rw [List.pairwise_cons] at h2
    have h3 := ih (fun y hy => h1 y (List.mem_cons_of_mem _ hy)) h2.2
    have hx := h1 x (by simp)
    unfold Mc.cnt
    by_cases c : 0 ≤ x
    · rw [if_pos c]
      have hn : ¬ x ∈ l := fun hm => h2.1 x hm c rfl
      have e : Mc.sum (fun t => if (t : Int) ∈ x :: l then 1 else 0) M = Mc.sum (fun t => (if x ≤ (t : Int) ∧ (t : Int) < x + 1 then 1 else 0) + (if (t : Int) ∈ l then 1 else 0)) M := by
        refine Mc.sum_cong _ fun t _ => ?_
        by_cases ct : (t : Int) = x
        · rw [if_pos (by rw [ct]; simp), if_pos (by omega), if_neg (by rw [ct]; exact hn)]; rfl
        · rw [if_neg (c := x ≤ (t : Int) ∧ (t : Int) < x + 1) (by omega)]
          by_cases cl : (t : Int) ∈ l
          · rw [if_pos (List.mem_cons_of_mem _ cl), if_pos cl]; rfl
          · rw [if_neg (by simp [cl, ct]), if_neg cl]; rfl
      rw [e, Mc.sum_add, Mc.sum_ind _ _ _ c (by omega), ← h3]
      omega
    · rw [if_neg c]
      have e : Mc.sum (fun t => if (t : Int) ∈ x :: l then 1 else 0) M = Mc.sum (fun t => if (t : Int) ∈ l then 1 else 0) M := by
        refine Mc.sum_cong _ fun t _ => ?_
        by_cases cl : (t : Int) ∈ l
        · rw [if_pos (List.mem_cons_of_mem _ cl), if_pos cl]
        · rw [if_neg (by simp [cl]; omega), if_neg cl]
      rw [e, ← h3]
      omega
theorem Held.cnt {P : Int → Prop} [DecidablePred P] {tags : List Int} (h : Held P tags) (M : Nat) (hM : ∀ t, 0 ≤ t → P t → t < M) : (Mc.cnt tags : Int) = Mc.sum (fun t => if P (t : Int) then 1 else 0) M := by
  have hg : ∀ j, (hj : j < tags.length) → tags[j] = tags.getD j 0 := fun j hj => by simp [hj]
  rw [cnt_sum M tags ?_ ?_]
  · refine Mc.sum_cong _ fun t _ => ?_
    by_cases c : P (t : Int)
    · rw [if_pos c, if_pos]
      obtain ⟨j, hj, e⟩ := h.has t (by omega) c
      rw [← e, ← hg j hj]
      exact List.getElem_mem hj
    · rw [if_neg c, if_neg]
      intro hm
      obtain ⟨j, hj, e⟩ := List.mem_iff_getElem.1 hm
      rw [hg j hj] at e
      rcases h.all j hj with a | ⟨a, b⟩
      · omega
      · exact c (e ▸ b)
  · intro x hx
    obtain ⟨j, hj, e⟩ := List.mem_iff_getElem.1 hx
    rw [hg j hj] at e
    rcases h.all j hj with a | ⟨a, b⟩
    · omega
    · have := hM _ a b; omega
  · rw [List.pairwise_iff_getElem]
    intro i j hi hj hij h0 e
    rw [hg i hi] at h0
    rw [hg i hi, hg j hj] at e
    have := h.one i j hi hj e h0
    omega
theorem cnt_full {tags : List Int} (h : ∀ j, j < tags.length → 0 ≤ tags.getD j 0) : Mc.cnt tags = tags.length := by
  induction tags with
  | nil => rfl
  | cons x l ih =>
    unfold Mc.cnt
    have h0 := h 0 (by simp)
    simp only [List.getD_cons_zero] at h0
    rw [if_pos h0, ih fun j hj => by have := h (j + 1) (by simpa using hj); simpa using this, List.length_cons]
    omega
/-- one of them is vacant -/
theorem Held.vacant {P : Int → Prop} {tags : List Int} (h : Held P tags) (hc : Mc.cnt tags < tags.length) : 0 ≤ slot tags (-1) := by
  rcases slot_cases tags (-1) with ⟨_, h2⟩ | ⟨k, _, h2, _⟩
  · have : Mc.cnt tags = tags.length := cnt_full fun j hj => by
      rcases h.all j hj with a | ⟨a, _⟩
      · exact absurd a (h2 j hj)
      · exact a
    omega
  · omega
theorem sum_mult (d : Int) (hd : 1 ≤ d) (k : Nat) : Mc.sum (fun t => if (t : Int) % d = 0 then 1 else 0) (k + 1) = k / d + 1 := by
  obtain ⟨d, rfl⟩ : ∃ e : Nat, d = e := ⟨d.toNat, by omega⟩
  induction k with
  | zero => simp [Mc.sum]
  | succ k ih =>
    rw [Mc.sum, ih]
    have h1 : (((k + 1 : Nat) : Int) % (d : Int)) = (((k + 1) % d : Nat) : Int) := by simp
    have h2 : (((k + 1 : Nat) : Int) / (d : Int)) = (((k + 1) / d : Nat) : Int) := by simp
    have h3 : ((k : Int) / (d : Int)) = ((k / d : Nat) : Int) := by simp
    rw [h1, h2, h3, Nat.succ_div]
    by_cases c : d ∣ k + 1
    · rw [if_pos c, if_pos (by rw [Nat.mod_eq_zero_of_dvd c]; rfl)]; omega
    · rw [if_neg c, if_neg (by intro e; exact c (Nat.dvd_of_mod_eq_zero (by omega)))]; omega
theorem sum_mult' (d : Int) (hd : 1 ≤ d) (k : Nat) (h : (k : Int) % d = 0) : Mc.sum (fun t => if (t : Int) % d = 0 then 1 else 0) k = k / d := by
  have := sum_mult d hd k
  rw [Mc.sum, if_pos h] at this
  omega

/-- those that are no multiples are freed, from the least on -/
def frT (d : Int) (tags : List Int) : Nat → List Int
  | 0 => tags
  | t + 1 => if (t : Int) % d ≠ 0 ∧ 0 ≤ slot (frT d tags t) t then (frT d tags t).set (slot (frT d tags t) t).toNat (-1) else frT d tags t
def frA (d : Int) (tags : List Int) : Nat → List Act
  | 0 => []
  | t + 1 => frA d tags t ++ if (t : Int) % d ≠ 0 ∧ 0 ≤ slot (frT d tags t) t then [(4, slot (frT d tags t) t)] else []
theorem frT_succ (d : Int) (tags : List Int) (t : Nat) : frT d tags (t + 1) = if (t : Int) % d ≠ 0 ∧ 0 ≤ slot (frT d tags t) t then (frT d tags t).set (slot (frT d tags t) t).toNat (-1) else frT d tags t := rfl
theorem frA_succ (d : Int) (tags : List Int) (t : Nat) : frA d tags (t + 1) = frA d tags t ++ if (t : Int) % d ≠ 0 ∧ 0 ≤ slot (frT d tags t) t then [(4, slot (frT d tags t) t)] else [] := rfl
theorem frT_len (d : Int) (tags : List Int) (t : Nat) : (frT d tags t).length = tags.length := by
  induction t with
  | zero => rfl
  | succ t ih => unfold frT; split <;> simp [ih]
/-- the machine's answer to what comes next -/
noncomputable def nm (k : Int) (ended : Bool) (m : St) : Option Act := nx k ended m.at_ m.pend m.tags
theorem step_free {m : St} {n : Nat} (hn : n < m.tags.length) (hl : m.tags.length ≤ 1048576) (h : 0 ≤ m.tags.getD n 0) : Mc.step m 4 n = ({ m with tags := m.tags.set n (-1) }, 0) := by
  have hr : Mc.right 4 n = true := by simp [Mc.right]; omega
  unfold Mc.step St.tag
  rw [hr, if_neg (by decide), if_neg (by omega), if_neg (by decide), if_neg (by decide), if_neg (by decide), if_pos rfl, Int.toNat_natCast, if_neg (by omega)]
theorem step_store {m : St} {n : Nat} (hn : n < m.tags.length) (hl : m.tags.length ≤ 1048576) (h : m.tags.getD n 0 < 0) : Mc.step m 2 n = ({ m with tags := m.tags.set n m.at_ }, 0) := by
  have hr : Mc.right 2 n = true := by simp [Mc.right]; omega
  unfold Mc.step St.tag
  rw [hr, if_neg (by decide), if_neg (by omega), if_neg (by decide), if_pos rfl, Int.toNat_natCast, if_neg (by omega)]
theorem step_restore {m : St} {n : Nat} (hn : n < m.tags.length) (hl : m.tags.length ≤ 1048576) (h : 0 ≤ m.tags.getD n 0) : Mc.step m 3 n = ({ m with at_ := m.tags.getD n 0 }, 0) := by
  have hr : Mc.right 3 n = true := by simp [Mc.right]; omega
  unfold Mc.step St.tag
  rw [hr, if_neg (by decide), if_neg (by omega), if_neg (by decide), if_neg (by decide), if_pos rfl, Int.toNat_natCast, if_neg (by omega)]
theorem step_adv {m : St} {n : Int} (h1 : 1 ≤ n) (h2 : n < 65536) (h : n ≤ m.l - m.at_) : Mc.step m 1 n = ({ m with at_ := m.at_ + n, tot := m.tot + n }, 0) := by
  have hr : Mc.right 1 n = true := by simp [Mc.right]; omega
  unfold Mc.step
  rw [hr, if_neg (by decide), if_neg (by omega), if_pos rfl, if_neg (by omega)]
theorem step_seed {m : St} (h1 : m.pend = -1) (h : m.at_ = m.l) : Mc.step m 5 0 = ({ m with pend := m.at_ }, 0) := by
  have hr : Mc.right 5 0 = true := by decide
  unfold Mc.step Mc.begin_
  rw [hr, if_neg (by decide), if_neg (by omega), if_neg (by decide), if_neg (by decide), if_neg (by decide), if_neg (by decide), if_pos rfl, if_neg (by omega), if_neg (by omega)]
theorem step_both {m : St} (h1 : m.pend = -1) (h : m.at_ = m.l - 1) : Mc.step m 6 0 = ({ m with pend := m.at_ }, 0) := by
  have hr : Mc.right 6 0 = true := by decide
  unfold Mc.step Mc.begin_
  rw [hr, if_neg (by decide), if_neg (by omega), if_neg (by decide), if_neg (by decide), if_neg (by decide), if_neg (by decide), if_neg (by decide), if_pos rfl, if_neg (by omega), if_neg (by omega)]
theorem step_rev {m : St} (h1 : 1 ≤ m.pend) (h : m.at_ = m.pend - 1) : Mc.step m 7 0 = ({ m with pend := m.at_ }, 0) := by
  have hr : Mc.right 7 0 = true := by decide
  unfold Mc.step Mc.reverse
  rw [hr, if_neg (by decide), if_neg (by omega), if_neg (by decide), if_neg (by decide), if_neg (by decide), if_neg (by decide), if_neg (by decide), if_neg (by decide), if_neg (by omega), if_neg (by omega)]
theorem Held.okS {P : Int → Prop} {tags : List Int} (h : Held P tags) {k a p : Int} (hk : 0 ≤ k ∧ k < 65536) (ha : 0 ≤ a ∧ a ≤ k) (hp : -1 ≤ p ∧ p ≤ k) (hn : 1 ≤ tags.length ∧ tags.length ≤ 1048576) (hP : ∀ t, 0 ≤ t → P t → t ≤ k) : okS k a p tags :=
  ⟨hk, ha, hp, hn, fun i hi => by
    rcases h.all i hi with e | ⟨e, q⟩
    · omega
    · have := hP _ e q; omega⟩
/-- frees come one after the other -/
theorem fr_goes {P : Int → Prop} {L : Int} {k : Nat} {tot : Int} {tags : List Int} (h : Held P tags) (hk : k < 65536) (hn : 1 ≤ tags.length ∧ tags.length ≤ 1048576) (hP : ∀ t, 0 ≤ t → P t → t ≤ k) (t : Nat) (ht : t ≤ k + 1) :
    Goes (nm k false) ⟨L, k, -1, tot, tags⟩ (frA (sd k tags.length) tags t) ⟨L, k, -1, tot, frT (sd k tags.length) tags t⟩ ∧ Held (fun x => P x ∧ (x % sd k tags.length = 0 ∨ (t : Int) ≤ x)) (frT (sd k tags.length) tags t) := by
  generalize hd : sd k tags.length = d
  induction t with
  | zero => exact ⟨rfl, h.cong fun x hx => ⟨fun p => ⟨p, .inr hx⟩, fun p => p.1⟩⟩
  | succ t ih =>
    obtain ⟨hg, hh⟩ := ih (by omega)
    have hl := frT_len d tags t
    rw [frA_succ, frT_succ]
    generalize frT d tags t = T at *
    by_cases c : (t : Int) % d ≠ 0 ∧ 0 ≤ slot T t
    · rw [if_pos c, if_pos c]
      obtain ⟨c1, c2⟩ := c
      obtain ⟨q1, q2⟩ := slot_nn c2
      obtain ⟨s, hs⟩ : ∃ s : Nat, slot T t = s := ⟨(slot T t).toNat, by omega⟩
      rw [hs, Int.toNat_natCast] at q1 q2 ⊢
      have hP' : P t := by
        rcases hh.all s q1 with a | ⟨_, b⟩
        · omega
        · rw [q2] at b; exact b.1
      have hbad : bad d (t : Int) = true := by unfold bad; rw [decide_eq_true c1, decide_eq_true (by omega)]; rfl
      have ho : off d T = s := by
        rcases off_cases d T with ⟨_, h2⟩ | ⟨i, hi, h1, h2, h3, h4⟩
        · have := h2 s q1; rw [q2, hbad] at this; cases this
        · have e1 := h3 s q1 (by rw [q2]; exact hbad)
          rw [q2] at e1
          have hb2 := h2
          unfold bad at hb2
          simp only [Bool.and_eq_true, decide_eq_true_eq] at hb2
          have e2 : (t : Int) ≤ T.getD i 0 := by
            rcases hh.all i hi with a | ⟨_, _, b⟩
            · omega
            · exact b.resolve_left hb2.2
          rw [h1]
          have := hh.one i s hi q1 (by omega) (by omega)
          omega
      refine ⟨hg.trans ?_, ?_⟩
      · have e := step_free (m := ⟨L, k, -1, tot, T⟩) (n := s) q1 (by show T.length ≤ 1048576; omega) (by show (0 : Int) ≤ T.getD s 0; omega)
        have hx : nm k false ⟨L, k, -1, tot, T⟩ = some (4, (s : Int)) := by
          unfold nm nx
          rw [if_neg (not_not_intro (hh.okS (by omega) (by show (0 : Int) ≤ (k : Int) ∧ (k : Int) ≤ k; omega) (by show (-1 : Int) ≤ -1 ∧ (-1 : Int) ≤ k; omega) (by rw [hl]; exact hn) fun x hx hp => hP x hx hp.1)), if_pos (by show (-1 : Int) < 0; omega), if_neg (by show ¬ (k : Int) < k; omega), hl, hd, ho, if_pos (by omega)]
        have := Goes.one hx (by rw [e])
        rw [e] at this
        exact this
      · refine (hh.free q1 (by omega)).cong fun x hx => ?_
        rw [q2]
        constructor
        · rintro ⟨⟨p, q⟩, r⟩
          exact ⟨p, by rcases q with q | q; exact .inl q; exact .inr (by omega)⟩
        · rintro ⟨p, q⟩
          refine ⟨⟨p, by rcases q with q | q; exact .inl q; exact .inr (by omega)⟩, fun e => ?_⟩
          subst e
          rcases q with q | q
          · exact c1 q
          · omega
    · rw [if_neg c, if_neg c, List.append_nil]
      refine ⟨hg, hh.cong fun x hx => ?_⟩
      constructor
      · rintro ⟨p, q⟩
        refine ⟨p, ?_⟩
        rcases q with q | q
        · exact .inl q
        · by_cases e : x = t
          · subst e
            by_cases z : (t : Int) % d = 0
            · exact .inl z
            · have := (hh.sl1 (t := (t : Int)) (by omega)).1 ⟨p, .inr (by omega)⟩
              exact absurd ⟨z, this⟩ c
          · exact .inr (by omega)
      · rintro ⟨p, q⟩
        exact ⟨p, by rcases q with q | q; exact .inl q; exact .inr (by omega)⟩
end Sd
end Go.Proofs.Ytkdamcacmecnaaa
