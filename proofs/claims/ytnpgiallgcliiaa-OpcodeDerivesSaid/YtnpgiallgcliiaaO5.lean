/- What words begin with; the closures of opcode.Read. -/
import Derived.Test.YtnpgiallgcliiaaO4
namespace Go.Proofs.Ytnpgiallgcliiaa
open Go.ChangeShapes Go.WideShapes Go.ChangeAt Go.RowKit
set_option linter.unusedVariables false

namespace Oc
/-- how many words are read ahead of the j-th place -/
def nn (k : Int) : Nat → Nat
  | 0 => 1
  | j + 1 => if ask4 k j = true then nn k j + 1 else nn k j
/-- the word at the j-th place -/
def vv (l : List Int) (k : Int) (j : Nat) : Int := if ask4 k j = true then l.getD (nn k j) 0 else 0
def cap (x : Int) : Int := min x 2147483647
/-- kind, registers, number; how many words; error -/
structure Rd where
  k : Int
  d : Int
  a : Int
  b : Int
  v : Int
  n : Int
  e : Int
def rd (l : List Int) : Rd :=
  if l.length = 0 then ⟨0, 0, 0, 0, 0, 0, 4⟩
  else if 8 ≤ l.getD 0 0 then ⟨0, 0, 0, 0, 0, 0, 6⟩
  else if l.length < nn (l.getD 0 0) 4 then ⟨0, 0, 0, 0, 0, 0, 4⟩
  else ⟨l.getD 0 0, cap (vv l (l.getD 0 0) 0), cap (vv l (l.getD 0 0) 1), cap (vv l (l.getD 0 0) 2), vv l (l.getD 0 0) 3, nn (l.getD 0 0) 4, 0⟩
theorem nn_mono (k : Int) {i j : Nat} (h : i ≤ j) : nn k i ≤ nn k j := by
  induction j with
  | zero => obtain rfl : i = 0 := by omega
            exact Nat.le_refl _
  | succ j ih =>
    by_cases e : i = j + 1
    · subst e; exact Nat.le_refl _
    · have := ih (by omega)
      show _ ≤ (if ask4 k j = true then nn k j + 1 else nn k j)
      split <;> omega
theorem nn_le (k : Int) (j : Nat) : 1 ≤ nn k j ∧ nn k j ≤ j + 1 := by
  induction j with
  | zero => exact ⟨Nat.le_refl _, Nat.le_refl _⟩
  | succ j ih =>
    have e : nn k (j + 1) = if ask4 k j = true then nn k j + 1 else nn k j := rfl
    rw [e]; split <;> omega
end Oc
/-- what a reading told -/
def RdP (w : World) (r : Oc.Rd) (e : Ending) (w' : World) : Prop := e = .returned (.tuple #[.agg (opv r.k r.d r.a r.b r.v), .int .i64 r.n, .int .i64 r.e]) ∧ KW w w'

section
variable {P : Program}
theorem run_loadVar_one (w : World) (a : Addr) (ty : TypeId) (v : Value) (d : TypeDesc) (hc : w.cell? a = some v) (hu : P.underlying ty = some d) (hd : (match d with | .struct _ | .array _ _ => false | _ => true) = true) :
    (loadVar ty a).run P w = .ok v w := by
  have hagg : (isAgg ty).run P w = .ok false w := by
    unfold isAgg
    rw [Sem.run_bind, run_underlying hu w]
    cases d <;> simp_all
  unfold loadVar
  rw [Sem.run_bind, hagg]
  simp [hc]
theorem results_cell2_tmp {fn : Func} {p q r : Tmp} {ty ty2 : TypeId} (h : fn.results = #[.cell p ty, .cell q ty2, .tmp r]) (tmps : Array Value) (w : World) (g : Nat) (t : TypeId) (cs : Array Value) (fr : Nat × Nat) (d : TypeDesc) (g2 : Addr) (u : Value) (d2 : TypeDesc)
    (hp : tmps.getD p undef = .pointer (some ⟨g, 0, none⟩)) (hg : w.heap[g]? = some (.cells cs t fr))
    (hu : P.underlying ty = some d) (hd : (match d with | .struct _ | .array _ _ => true | _ => false) = true) (hi : (P.info? ty).map (·.size) = some cs.size)
    (hq : tmps.getD q undef = .pointer (some g2)) (hc : w.cell? g2 = some u) (hu2 : P.underlying ty2 = some d2) (hd2 : (match d2 with | .struct _ | .array _ _ => false | _ => true) = true) :
    (results fn tmps).run P w = .ok (.tuple #[.agg cs, u, tmps.getD r undef]) w := by
  have hp' : tmps[p]?.getD undef = .pointer (some ⟨g, 0, none⟩) := by simpa using hp
  have hq' : tmps[q]?.getD undef = .pointer (some g2) := by simpa using hq
  simp [results, h, hp', hq', asAddr, run_loadVar_row w g t ty cs fr d hg hu hd hi, run_loadVar_one w g2 ty2 u d2 hc hu2 hd2]
theorem results_cell_tmp2 {fn : Func} {p q r : Tmp} {ty : TypeId} (h : fn.results = #[.cell p ty, .tmp q, .tmp r]) (tmps : Array Value) (w : World) (g : Nat) (t : TypeId) (cs : Array Value) (fr : Nat × Nat) (d : TypeDesc)
    (hp : tmps.getD p undef = .pointer (some ⟨g, 0, none⟩)) (hg : w.heap[g]? = some (.cells cs t fr))
    (hu : P.underlying ty = some d) (hd : (match d with | .struct _ | .array _ _ => true | _ => false) = true) (hi : (P.info? ty).map (·.size) = some cs.size) :
    (results fn tmps).run P w = .ok (.tuple #[.agg cs, tmps.getD q undef, tmps.getD r undef]) w := by
  have hp' : tmps[p]?.getD undef = .pointer (some ⟨g, 0, none⟩) := by simpa using hp
  simp [results, h, hp', asAddr, run_loadVar_row w g t ty cs fr d hg hu hd hi]
end

/-- the next word -/
def NextP (w : World) (nb sb : Nat) (n' : Nat) (s' : Bool) (v : Value) (e : Ending) (w' : World) : Prop :=
  e = .returned v ∧ w'.rowIs nb 3 1 (fun _ => .int .i64 n') ∧ w'.rowIs sb 4 1 (fun _ => .bool s') ∧ Keep (fun i => i = nb ∨ i = sb) w w'
/-- what closures share -/
structure Cl (w : World) (nb wb sb : Nat) (n : Nat) (s : Bool) (A : Option Addr) (c : Nat) (l : List Int) : Prop where
  hn : w.rowIs nb 3 1 (fun _ => .int .i64 n)
  hs : w.rowIs sb 4 1 (fun _ => .bool s)
  hw : w.cell? ⟨wb, 0, none⟩ = some (.slice A l.length c)
  hr : Row1 w A l.length fun i => .int .u64 (l.getD i 0)
  hd : nb ≠ wb ∧ sb ≠ wb ∧ nb ≠ sb
  ha : ∀ b off, A = some ⟨b, off, none⟩ → b ≠ nb ∧ b ≠ sb

theorem Cl.next {w w' : World} {nb wb sb n n' : Nat} {s s' : Bool} {A : Option Addr} {c : Nat} {l : List Int} (h : Cl w nb wb sb n s A c l) (h1 : w'.rowIs nb 3 1 (fun _ => .int .i64 n')) (h2 : w'.rowIs sb 4 1 (fun _ => .bool s'))
    (hk : Keep (fun i => i = nb ∨ i = sb) w w') : Cl w' nb wb sb n' s' A c l :=
  ⟨h1, h2, (hk.cell (World.block_lt_of_cell? w _ h.hw) (fun e => e.elim (fun e => h.hd.1 e.symm) fun e => h.hd.2.1 e.symm)).trans h.hw, hk.row1 h.hr (fun b off hA e => e.elim (h.ha b off hA).1 (h.ha b off hA).2), h.hd, h.ha⟩
set_option maxHeartbeats 1000000 in
theorem next_no (nb wb sb : Nat) (n : Nat) (s : Bool) (A : Option Addr) (c : Nat) (l : List Int) (w : World) (h : Cl w nb wb sb n s A c l) :
    Calls Try.prog 51 #[.bool false, .pointer (some ⟨nb, 0, none⟩), .pointer (some ⟨wb, 0, none⟩), .pointer (some ⟨sb, 0, none⟩)] w (NextP w nb sb n s (.int .u64 0)) := by
  have H := hid h
  clear h
  go_enter Try.func51, Try.ntmps51
  go_wp2_with fail
  go_ret
  exact ⟨rfl, H.out.hn, H.out.hs, Keep.refl _ _⟩
set_option maxHeartbeats 1000000 in
theorem next_yes (nb wb sb : Nat) (n : Nat) (s : Bool) (A : Option Addr) (c : Nat) (l : List Int) (w : World) (h : Cl w nb wb sb n s A c l) (hn : n < l.length) (hl : l.length ≤ 1099511627776) :
    Calls Try.prog 51 #[.bool true, .pointer (some ⟨nb, 0, none⟩), .pointer (some ⟨wb, 0, none⟩), .pointer (some ⟨sb, 0, none⟩)] w (NextP w nb sb (n + 1) s (.int .u64 (l.getD n 0))) := by
  have H := hid h
  obtain ⟨h1, h2, h3, h4, ⟨d1, d2, d3⟩, h5⟩ := h
  obtain ⟨b, off, rfl, hb, hc⟩ := h4.at_ hn
  obtain ⟨e1, e2⟩ := h5 b off rfl
  have c1 := h1.cell (i := 0) (by omega)
  have f1 := h1.frozen 0
  have HF : Hid (NextP w nb sb (n + 1) s (.int .u64 (l.getD n 0)) (.returned (.int .u64 (l.getD n 0))) (w.setCell ⟨nb, 0, none⟩ (.int .i64 ((n : Int) + 1)))) :=
    ⟨rfl, (h1.set 0 _).congr fun i hi => by obtain rfl : i = 0 := by omega
                                            rfl, h2.setOther (Ne.symm d3) _, (Keep.refl _ w).setCell _ _ (.inl rfl)⟩
  unfold NextP at HF ⊢
  generalize l.getD n 0 = x at *
  generalize l.length = N at *
  have q2 : decide ((N : Int) < (n : Int) + 1) = false := decide_eq_false (by omega)
  clear h1 h2 h4 h5 H
  go_enter Try.func51, Try.ntmps51
  go_wp2_with fail
  go_ret
  exact ⟨rfl, HF.out.2⟩
set_option maxHeartbeats 1000000 in
theorem next_far (nb wb sb : Nat) (n : Nat) (s : Bool) (A : Option Addr) (c : Nat) (l : List Int) (w : World) (h : Cl w nb wb sb n s A c l) (hn : l.length ≤ n) (hl : n ≤ 1099511627776) :
    Calls Try.prog 51 #[.bool true, .pointer (some ⟨nb, 0, none⟩), .pointer (some ⟨wb, 0, none⟩), .pointer (some ⟨sb, 0, none⟩)] w (NextP w nb sb (n + 1) true (.int .u64 0)) := by
  obtain ⟨h1, h2, h3, h4, ⟨d1, d2, d3⟩, h5⟩ := h
  have c1 := h1.cell (i := 0) (by omega)
  have f1 := h1.frozen 0
  have c2 := h2.cell (i := 0) (by omega)
  have f2 := h2.frozen 0
  have HF : Hid (NextP w nb sb (n + 1) true (.int .u64 0) (.returned (.int .u64 0)) ((w.setCell ⟨nb, 0, none⟩ (.int .i64 ((n : Int) + 1))).setCell ⟨sb, 0, none⟩ (.bool true))) :=
    ⟨rfl, ((h1.set 0 _).congr fun i hi => by obtain rfl : i = 0 := by omega
                                             rfl).setOther d3 _, ((h2.setOther (Ne.symm d3) _).set 0 _).congr fun i hi => by obtain rfl : i = 0 := by omega
                                                                                                                             rfl, ((Keep.refl _ w).setCell _ _ (.inl rfl)).setCell _ _ (.inr rfl)⟩
  unfold NextP at HF ⊢
  generalize l.length = N at *
  have q1 : (N : Int) < (n : Int) + 1 := by omega
  clear h1 h2 h4 h5
  go_enter Try.func51, Try.ntmps51
  go_wp2_with fail
  go_ret
  exact ⟨rfl, HF.out.2⟩

/-- the next word, told by the j-th place of a kind's words -/
def nextV (l : List Int) (k : Int) (j : Nat) : Int := if ask4 k j = true then (if Oc.nn k j < l.length then l.getD (Oc.nn k j) 0 else 0) else 0
theorem next_any (nb wb sb : Nat) (k : Int) (j : Nat) (A : Option Addr) (c : Nat) (l : List Int) (w : World) (hj : j ≤ 4) (hl : l.length ≤ 1099511627776) (h : Cl w nb wb sb (Oc.nn k j) (decide (l.length < Oc.nn k j)) A c l) :
    Calls Try.prog 51 #[.bool (ask4 k j), .pointer (some ⟨nb, 0, none⟩), .pointer (some ⟨wb, 0, none⟩), .pointer (some ⟨sb, 0, none⟩)] w
      (NextP w nb sb (Oc.nn k (j + 1)) (decide (l.length < Oc.nn k (j + 1))) (.int .u64 (nextV l k j))) := by
  have e : Oc.nn k (j + 1) = if ask4 k j = true then Oc.nn k j + 1 else Oc.nn k j := rfl
  have hle := Oc.nn_le k j
  unfold nextV
  rw [e]
  cases hx : ask4 k j with
  | false => exact next_no nb wb sb _ _ A c l w h
  | true =>
    by_cases hn : Oc.nn k j < l.length
    · have h1 : decide (l.length < Oc.nn k j + 1) = decide (l.length < Oc.nn k j) := by
        rw [decide_eq_false (show ¬ l.length < Oc.nn k j + 1 by omega), decide_eq_false (show ¬ l.length < Oc.nn k j by omega)]
      simp only [if_true]
      rw [if_pos hn, h1]
      exact next_yes nb wb sb _ _ A c l w h hn hl
    · have h1 : decide (l.length < Oc.nn k j + 1) = true := decide_eq_true (by omega)
      simp only [if_true]
      rw [if_neg hn, h1]
      exact next_far nb wb sb _ _ A c l w h (by omega) (by omega)

/-- the closure's value -/
def nextF (nb wb sb : Nat) : Value := .func (.func 51) #[] #[.pointer (some ⟨nb, 0, none⟩), .pointer (some ⟨wb, 0, none⟩), .pointer (some ⟨sb, 0, none⟩)]
set_option maxHeartbeats 1000000 in
theorem at07_any (nb wb sb fb : Nat) (k : Int) (j : Nat) (A : Option Addr) (c : Nat) (l : List Int) (w : World) (hj : j ≤ 4) (hl : l.length ≤ 1099511627776) (h : Cl w nb wb sb (Oc.nn k j) (decide (l.length < Oc.nn k j)) A c l) (hf : w.cell? ⟨fb, 0, none⟩ = some (nextF nb wb sb))
    (hb : ∀ x ∈ l, 0 ≤ x ∧ x ≤ 18446744073709551615) :
    Calls Try.prog 52 #[.bool (ask4 k j), .pointer (some ⟨fb, 0, none⟩)] w
      (NextP w nb sb (Oc.nn k (j + 1)) (decide (l.length < Oc.nn k (j + 1))) (.int .i64 (Oc.cap (nextV l k j)))) := by
  have HN := hid (next_any nb wb sb k j A c l w hj hl h)
  have hv : 0 ≤ nextV l k j ∧ nextV l k j ≤ 18446744073709551615 := by
    unfold nextV
    split
    · split
      · rename_i hn
        rw [List.getD_eq_getElem?_getD, List.getElem?_eq_getElem hn]
        exact hb _ (List.getElem_mem hn)
      · omega
    · omega
  have HC := hid (show Oc.cap (nextV l k j) = min (nextV l k j) 2147483647 from rfl)
  generalize Oc.cap (nextV l k j) = cv at *
  generalize nextV l k j = v at *
  generalize ask4 k j = x at *
  unfold nextF at hf
  obtain ⟨v0, v1⟩ := hv
  unfold NextP at HN ⊢
  clear h hb
  go_enter Try.func52, Try.ntmps52
  go_wp2_with fail
  refine HN.out.mono ?_
  rintro e w1 ⟨rfl, h1, h2, h3⟩
  have H1 := hid h1
  have H2 := hid h2
  have H3 := hid h3
  clear h1 h2 h3 hf HN
  by_cases hm : v ≤ 2147483647
  · have hE : Hid (cv = v) := hid (by rw [HC.out]; omega)
    go_wp2_with fail
    go_ret
    refine ⟨?_, H1.out, H2.out, H3.out⟩
    exact ret_int hE.out.symm
  · have hE : Hid (cv = 2147483647) := hid (by rw [HC.out]; omega)
    go_wp2_with fail
    go_ret
    refine ⟨?_, H1.out, H2.out, H3.out⟩
    exact ret_int hE.out.symm
end Go.Proofs.Ytnpgiallgcliiaa
