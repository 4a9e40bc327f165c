/- A machine in memory; contracts of action.Right, machine.long, Machine.moves. -/
import Derived.Test.YtgadkelldbibgaaKeep
import Derived.Test.YtgadkelldbibgaaPlainM
import Derived.Laws.EntriesVeiled
namespace Go.Proofs.Ytgadkelldbibgaa
open Go.ChangeShapes Go.WideShapes Go.ChangeAt Go.RowKit
set_option linter.unusedVariables false

/-- the block of a slice that has elements -/
def tbk : Value → Option Nat
  | .slice (some a) n _ => if n = 0 then none else some a.block
  | _ => none
/-- a machine's blocks -/
def mo (b : Nat) (v : Value) (k : Nat) : Prop := k = b ∨ tbk v = some k
/-- tags in memory: a slice of a block that is not b -/
def Tg (w : World) (b : Nat) (v : Value) (tags : List Int) : Prop :=
  ∃ A c, v = .slice A tags.length c ∧ (A = none → c = 0) ∧ (0 < tags.length → ∃ tb N f, A = some ⟨tb, 0, none⟩ ∧ tb ≠ b ∧ tags.length ≤ N ∧ w.rowIs tb 3 N f ∧ ∀ i, i < tags.length → f i = .int .i64 (tags.getD i 0))
def mf (m : Mc.St) (v : Value) : Nat → Value
  | 0 => .int .i64 m.at_
  | 1 => .int .i64 m.pend
  | 2 => .int .i64 m.l
  | 3 => .int .i64 m.tot
  | _ => v
def Mach (w : World) (b : Nat) (v : Value) (m : Mc.St) : Prop := w.rowIs b 88 5 (mf m v) ∧ Tg w b v m.tags

theorem Tg.keep {own : Nat → Prop} {w w' : World} {b : Nat} {v : Value} {tags : List Int} (h : Tg w b v tags) (hk : Keep own w w') (hn : ∀ k, tbk v = some k → ¬ own k) : Tg w' b v tags := by
  obtain ⟨A, c, rfl, hz, hx⟩ := h
  refine ⟨A, c, rfl, hz, fun h0 => ?_⟩
  obtain ⟨tb, N, f, rfl, hne, hN, hr, hf⟩ := hx h0
  exact ⟨tb, N, f, rfl, hne, hN, hk.row (hn tb (by show (if tags.length = 0 then none else some tb) = some tb; rw [if_neg (by omega)])) hr, hf⟩
theorem Mach.keep {own : Nat → Prop} {w w' : World} {b : Nat} {v : Value} {m : Mc.St} (h : Mach w b v m) (hk : Keep own w w') (hn : ∀ k, mo b v k → ¬ own k) : Mach w' b v m :=
  ⟨hk.row (hn b (.inl rfl)) h.1, h.2.keep hk fun k hk' => hn k (.inr hk')⟩
theorem Mach.kw {w w' : World} {b : Nat} {v : Value} {m : Mc.St} (h : Mach w b v m) (hk : KW w w') : Mach w' b v m := h.keep (hk.keep (own := fun _ => False)) fun _ _ h => h
theorem Mach.lt {w : World} {b : Nat} {v : Value} {m : Mc.St} (h : Mach w b v m) {k : Nat} (hk : mo b v k) : k < w.heap.size := by
  rcases hk with rfl | hk
  · exact h.1.lt
  · obtain ⟨A, c, rfl, _, hx⟩ := h.2
    cases A with
    | none => cases hk
    | some a =>
      by_cases h0 : m.tags.length = 0
      · simp [tbk, h0] at hk
      · obtain ⟨tb, N, f, hA, _, _, hr, _⟩ := hx (by omega)
        cases hA
        simp [tbk, h0] at hk
        subst hk
        exact hr.lt
theorem Mach.size {w : World} {b : Nat} {v : Value} {m : Mc.St} (h : Mach w b v m) : b < w.heap.size := h.1.lt
/-- the cell of a tag -/
theorem Mach.tag {w : World} {b : Nat} {v : Value} {m : Mc.St} (h : Mach w b v m) {n : Nat} (hn : n < m.tags.length) :
    ∃ tb c, v = .slice (some ⟨tb, 0, none⟩) m.tags.length c ∧ tb ≠ b ∧ tb < w.heap.size ∧ w.cell? ⟨tb, n, none⟩ = some (.int .i64 (m.tags.getD n 0)) ∧ w.frozen? ⟨tb, n, none⟩ = false := by
  obtain ⟨A, c, hv, _, hx⟩ := h.2
  obtain ⟨tb, N, f, rfl, hne, hN, hr, hf⟩ := hx (by omega)
  exact ⟨tb, c, hv, hne, hr.lt, by rw [hr.cell (by omega), hf n hn], hr.frozen n⟩
/-- a tag written -/
theorem Mach.setTag {w : World} {b tb c : Nat} {v : Value} {m : Mc.St} (h : Mach w b v m) (hv : v = .slice (some ⟨tb, 0, none⟩) m.tags.length c) {n : Nat} (hn : n < m.tags.length) (x : Int) :
    Mach (w.setCell ⟨tb, n, none⟩ (.int .i64 x)) b v { m with tags := m.tags.set n x } := by
  obtain ⟨h1, A, c', hv', hz, hx⟩ := h
  subst hv
  obtain ⟨tb', N, f, rfl, hne, hN, hr, hf⟩ := hx (by omega)
  simp only [Value.slice.injEq, Option.some.injEq, Addr.mk.injEq] at hv'
  obtain ⟨⟨rfl, _⟩, _, rfl⟩ := hv'
  refine ⟨h1.setOther (Ne.symm hne) _, _, c, by simp, hz, fun _ => ⟨tb, N, _, rfl, hne, by simpa using hN, hr.set n _, fun i hi => ?_⟩⟩
  simp only [List.length_set] at hi
  by_cases e : i = n
  · subst e; simp [hi]
  · rw [if_neg e, hf i hi]
    simp [List.getElem?_set_ne (Ne.symm e)]
/-- one of the machine's own cells written -/
theorem Mach.set {w : World} {b : Nat} {v : Value} {m m' : Mc.St} (h : Mach w b v m) (i : Nat) (x : Value) (ht : m'.tags = m.tags) (hi : ∀ j, j < 5 → mf m' v j = if j = i then x else mf m v j) :
    Mach (w.setCell ⟨b, i, none⟩ x) b v m' := by
  refine ⟨(h.1.set i x).congr fun j hj => (hi j hj).symm, ?_⟩
  rw [ht]
  obtain ⟨A, c, rfl, hz, hx⟩ := h.2
  refine ⟨A, c, rfl, hz, fun h0 => ?_⟩
  obtain ⟨tb, N, f, rfl, hne, hN, hr, hf⟩ := hx h0
  exact ⟨tb, N, f, rfl, hne, hN, hr.setOther hne _, hf⟩
theorem Mach.len {w : World} {b : Nat} {v : Value} {m : Mc.St} (h : Mach w b v m) : ∃ A c, v = .slice A m.tags.length c := by
  obtain ⟨A, c, hv, _, _⟩ := h.2
  exact ⟨A, c, hv⟩

theorem long_any (l : Int) (w : World) : Calls Try.prog 52 #[.int .i64 l] w fun e w' => e = .returned (.bool (decide (0 ≤ l ∧ l < 65536))) ∧ w = w' := by
  by_cases h0 : 0 ≤ l
  · by_cases h1 : l < 65536
    · go_enter Try.func52, Try.ntmps52
      go_wp2
      go_ret
      exact ⟨ret_bool (by first | rfl | exact (decide_eq_true ⟨h0, h1⟩).symm), rfl⟩
    · have d1 : decide (l < 65536) = false := by simpa using h1
      go_enter Try.func52, Try.ntmps52
      go_wp2
      go_ret
      exact ⟨ret_bool (by first | rfl | exact (decide_eq_false (by omega)).symm), rfl⟩
  · have d0 : decide (0 ≤ l) = false := by simpa using h0
    go_enter Try.func52, Try.ntmps52
    go_wp2
    go_ret
    exact ⟨ret_bool (by first | rfl | exact (decide_eq_false (by omega)).symm), rfl⟩
theorem numbered_any (k : Int) (w : World) : Calls Try.prog 92 #[.int .i64 k] w fun e w' => e = .returned (.bool (decide (1 ≤ k ∧ k ≤ 4))) ∧ w = w' := by
  by_cases h0 : 1 ≤ k
  · by_cases h1 : k ≤ 4
    · go_enter Try.func92, Try.ntmps92
      go_wp2
      go_ret
      exact ⟨ret_bool (by first | rfl | exact (decide_eq_true ⟨h0, h1⟩).symm), rfl⟩
    · have d1 : decide (k ≤ 4) = false := by simpa using h1
      go_enter Try.func92, Try.ntmps92
      go_wp2
      go_ret
      exact ⟨ret_bool (by first | rfl | exact (decide_eq_false (by omega)).symm), rfl⟩
  · have d0 : decide (1 ≤ k) = false := by simpa using h0
    go_enter Try.func92, Try.ntmps92
    go_wp2
    go_ret
    exact ⟨ret_bool (by first | rfl | exact (decide_eq_false (by omega)).symm), rfl⟩

theorem right_any (k n : Int) (w : World) : Calls Try.prog 55 #[.agg #[.int .i64 k, .int .i64 n]] w fun e w' => e = .returned (.bool (Mc.right k n)) ∧ KW w w' := by
  have HR := hid (Mc.right_def k n)
  have hN := hid (fun W => numbered_any k W)
  have hk := (KW.refl w).alloc (.cells #[.int .i64 k, .int .i64 n] 27)
  have HK := hid hk
  by_cases h0 : k < 1
  · go_enter Try.func55, Try.ntmps55
    go_wp2
    go_ret
    exact ⟨ret_bool (by rw [HR.out, if_pos (Or.inl h0)]), HK.out⟩
  have d0 : decide (k < 1) = false := by simpa using h0
  by_cases h1 : 9 < k
  · go_enter Try.func55, Try.ntmps55
    go_wp2
    go_ret
    exact ⟨ret_bool (by rw [HR.out, if_pos (Or.inr h1)]), HK.out⟩
  have d1 : decide (9 < k) = false := by simpa using h1
  have h01 : ¬ (k < 1 ∨ 9 < k) := by omega
  by_cases h2 : k = 1
  · subst h2
    rw [if_neg (by omega), if_pos rfl] at HR
    by_cases h3 : 1 ≤ n
    · by_cases h4 : n < 65536
      · go_enter Try.func55, Try.ntmps55
        go_wp2
        go_ret
        exact ⟨ret_bool (by rw [HR.out]; first | exact decide_eq_true (by omega) | exact (decide_eq_true (by omega)).symm), HK.out⟩
      · have d3 : decide (n < 65536) = false := by simpa using h4
        go_enter Try.func55, Try.ntmps55
        go_wp2
        go_ret
        exact ⟨ret_bool (by rw [HR.out]; first | exact decide_eq_false (by omega) | exact (decide_eq_false (by omega)).symm), HK.out⟩
    · have d3 : decide (1 ≤ n) = false := by simpa using h3
      go_enter Try.func55, Try.ntmps55
      go_wp2
      go_ret
      exact ⟨ret_bool (by rw [HR.out]; first | exact decide_eq_false (by omega) | exact (decide_eq_false (by omega)).symm), HK.out⟩
  have d2 : (k == 1) = false := by simpa using h2
  rw [if_neg h01, if_neg h2] at HR
  by_cases h5 : k ≤ 4
  · rw [if_pos h5] at HR
    have HN := hid (fun W => hN.out W)
    rw [show decide (1 ≤ k ∧ k ≤ 4) = true from by simp; omega] at HN
    by_cases h3 : 0 ≤ n
    · by_cases h4 : n < 1048576
      · go_enter Try.func55, Try.ntmps55
        go_wp2_with (go_at_call 92; refine (HN.out _).mono ?_; rintro e w1 ⟨rfl, rfl⟩)
        go_ret
        exact ⟨ret_bool (by rw [HR.out]; first | exact decide_eq_true (by omega) | exact (decide_eq_true (by omega)).symm), HK.out⟩
      · have d3 : decide (n < 1048576) = false := by simpa using h4
        go_enter Try.func55, Try.ntmps55
        go_wp2_with (go_at_call 92; refine (HN.out _).mono ?_; rintro e w1 ⟨rfl, rfl⟩)
        go_ret
        exact ⟨ret_bool (by rw [HR.out]; first | exact decide_eq_false (by omega) | exact (decide_eq_false (by omega)).symm), HK.out⟩
    · have d3 : decide (0 ≤ n) = false := by simpa using h3
      go_enter Try.func55, Try.ntmps55
      go_wp2_with (go_at_call 92; refine (HN.out _).mono ?_; rintro e w1 ⟨rfl, rfl⟩)
      go_ret
      exact ⟨ret_bool (by rw [HR.out]; first | exact decide_eq_false (by omega) | exact (decide_eq_false (by omega)).symm), HK.out⟩
  · rw [if_neg h5] at HR
    have HN := hid (fun W => hN.out W)
    rw [show decide (1 ≤ k ∧ k ≤ 4) = false from by simp; omega] at HN
    by_cases h3 : n = 0
    · subst h3
      go_enter Try.func55, Try.ntmps55
      go_wp2_with (go_at_call 92; refine (HN.out _).mono ?_; rintro e w1 ⟨rfl, rfl⟩)
      go_ret
      exact ⟨ret_bool (by rw [HR.out]; simp), HK.out⟩
    · have d3 : (n == 0) = false := by simpa using h3
      go_enter Try.func55, Try.ntmps55
      go_wp2_with (go_at_call 92; refine (HN.out _).mono ?_; rintro e w1 ⟨rfl, rfl⟩)
      go_ret
      exact ⟨ret_bool (by rw [HR.out]; first | exact decide_eq_false (by omega) | exact (decide_eq_false (by omega)).symm), HK.out⟩

/-- what a machine's actions do, by their kinds -/
def mvs (b : Nat) : Array Value := #[.nilFunc, .func (.func 93) #[.pointer (some ⟨b, 0, none⟩)] #[], .func (.func 94) #[.pointer (some ⟨b, 0, none⟩)] #[], .func (.func 95) #[.pointer (some ⟨b, 0, none⟩)] #[], .func (.func 96) #[.pointer (some ⟨b, 0, none⟩)] #[], .func (.func 97) #[.pointer (some ⟨b, 0, none⟩)] #[], .func (.func 98) #[.pointer (some ⟨b, 0, none⟩)] #[], .func (.func 99) #[.pointer (some ⟨b, 0, none⟩)] #[]]
theorem moves_any (b : Nat) (w : World) :
    Calls Try.prog 56 #[.pointer (some ⟨b, 0, none⟩)] w fun e w' => e = .returned (.agg (mvs b)) ∧ KW w w' := by
  go_enter Try.func56, Try.ntmps56
  go_wp2_with fail
  exact bodyPost_ret (results_cell_row rfl _ _ _ _ _ (0, 0) _ rfl (heap_alloc_new w _) Try.underlying93 rfl (by kernel_rfl)) rfl ⟨rfl, (KW.refl w).alloc _⟩
end Go.Proofs.Ytgadkelldbibgaa
