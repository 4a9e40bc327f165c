/- Several texts in one. -/
import Derived.Test.YtgadkelldbibgaaBA
import Derived.Test.YtgadkelldbibgaaPF
import Derived.DeepKeys4
import Derived.Maps.OwnOps
import Derived.Ground.NamesProg
import Derived.Shelf.Sort.Plain
import Derived.StillTailTactics
import Derived.Deep.Cut
/- The map of best.Search: keys that are structs of five numbers; what a look-up and a store come to. -/
namespace Go.Proofs.Ytgadkelldbibgaa
open Go.ChangeShapes Go.WideShapes Go.ChangeAt Go.RowKit
set_option linter.unusedVariables false

def Ky.small (k : Ky) : Prop := (Lit.int .i64 k.at_).wf = true ∧ (Lit.int .i64 k.pend).wf = true ∧ (Lit.int .i64 k.x).wf = true ∧ (Lit.int .i64 k.y).wf = true ∧ (Lit.int .i64 k.z).wf = true
def kyv (k : Ky) : Value := .agg #[.int .i64 k.at_, .int .i64 k.pend, .int .i64 k.x, .int .i64 k.y, .int .i64 k.z]

theorem kyv_inj {k k' : Ky} (h : kyv k = kyv k') : k = k' := by
  obtain ⟨a, b, c, d, e⟩ := k
  obtain ⟨a', b', c', d', e'⟩ := k'
  unfold kyv at h
  simp only [Value.agg.injEq, Array.mk.injEq, List.cons.injEq, Value.int.injEq] at h
  simp only [Ky.mk.injEq]
  obtain ⟨⟨_, h1⟩, ⟨_, h2⟩, ⟨_, h3⟩, ⟨_, h4⟩, ⟨_, h5⟩, _⟩ := h
  exact ⟨h1, h2, h3, h4, h5⟩

theorem key_law : WideMaps.KeyLaw Try.prog 101 :=
  deep_law (m := 3) (by omega) (by kernel_rfl) (by kernel_rfl) (by kernel_rfl)

theorem lits_int (d : Nat) (n : Int) (h : (Lit.int .i64 n).wf = true) : Try.prog.keyLits (d + 1) 3 [.int .i64 n] = some [.int .i64 n] := by
  have hu : Try.prog.underlying 3 = some (.int .i64) := by kernel_rfl
  unfold Program.keyLits
  rw [hu]
  simp [h]

theorem lits_arr (d : Nat) (x y z : Int) (hx : (Lit.int .i64 x).wf = true) (hy : (Lit.int .i64 y).wf = true) (hz : (Lit.int .i64 z).wf = true) :
    Try.prog.keyLits (d + 2) 99 [.int .i64 x, .int .i64 y, .int .i64 z] = some [.int .i64 x, .int .i64 y, .int .i64 z] := by
  have hu : Try.prog.underlying 99 = some (.array 3 3) := by kernel_rfl
  have h3 : Try.prog.cellsOf 99 = 3 := by kernel_rfl
  have h1 : Try.prog.cellsOf 3 = 1 := by kernel_rfl
  unfold Program.keyLits
  rw [hu]
  have e : List.range 3 = [0, 1, 2] := rfl
  simp only [h3, h1, List.length_cons, List.length_nil, if_true, e, List.mapM_cons, List.mapM_nil]
  simp [lits_int d x hx, lits_int d y hy, lits_int d z hz]

theorem key_lits (k : Ky) (h : k.small) : ∃ l, keyOf Try.prog 101 (kyv k) = some l := by
  obtain ⟨h1, h2, h3, h4, h5⟩ := h
  have hs : Try.prog.underlying 101 = some (.struct #[⟨"at", 3, 0, false, "", "backstitch/best", 0⟩, ⟨"pending", 3, 1, false, "", "backstitch/best", 8⟩, ⟨"tags", 99, 2, false, "", "backstitch/best", 16⟩]) := by kernel_rfl
  have hk : Try.prog.keyType 101 = true := by kernel_rfl
  have hf : (kyv k).formed Try.prog 101 = true := by kernel_rfl
  have hc : Try.prog.cellsOf 101 = 5 := by kernel_rfl
  have hc3 : Try.prog.cellsOf 99 = 3 := by kernel_rfl
  have hc1 : Try.prog.cellsOf 3 = 1 := by kernel_rfl
  obtain ⟨d, hd⟩ : ∃ d, Try.prog.types.size + 1 = d + 3 := by
    have h2 : Try.prog.types.size = Try.prog.types.size - 2 + 2 := by kernel_rfl
    exact ⟨Try.prog.types.size - 2, by omega⟩
  refine ⟨.string (keyBytes [.int .i64 k.at_, .int .i64 k.pend, .int .i64 k.x, .int .i64 k.y, .int .i64 k.z]), ?_⟩
  unfold keyOf
  rw [hs]
  simp only [hk, hf, Bool.and_self, if_true, hd]
  unfold Program.keyLits
  rw [hs]
  simp [kyv, Value.cells, hc, hc1, hc3, lits_int (d + 1) _ h1, lits_int (d + 1) _ h2, lits_arr d _ _ _ h3 h4 h5]

/-- what is held of a key: the machine's block, its total, by which action, from which key, whether it is the first -/
structure Fd where
  mb : Nat
  tot : Int
  kind : Int
  n : Int
  from_ : Ky
  first : Bool

def fdv (f : Fd) : Value := .agg #[.pointer (some ⟨f.mb, 0, none⟩), .int .i64 f.tot, .int .i64 f.kind, .int .i64 f.n, .int .i64 f.from_.at_, .int .i64 f.from_.pend, .int .i64 f.from_.x, .int .i64 f.from_.y, .int .i64 f.from_.z, .bool f.first]
def fd0 : Value := .agg #[.pointer none, .int .i64 0, .int .i64 0, .int .i64 0, .int .i64 0, .int .i64 0, .int .i64 0, .int .i64 0, .int .i64 0, .bool false]

/-- BLOCK b HOLDS THE MAP g -/
def Known (w : World) (b : Nat) (g : Ky → Option Fd) : Prop :=
  ∃ es clock, w.heap[b]? = some (.map es clock) ∧ (∀ e ∈ es.toList, ∃ k f, k.small ∧ g k = some f ∧ e.key = kyv k ∧ e.val = fdv f) ∧ (∀ k f, g k = some f → ∃ e ∈ es.toList, e.key = kyv k) ∧ MapKept.Stamped es clock

theorem Known.find {w : World} {b : Nat} {g : Ky → Option Fd} (h : Known w b g) {k : Ky} (hk : k.small) (v : World) :
    ∃ es clock, w.heap[b]? = some (.map es clock) ∧
    ((g k = none ∧ (Instr.findKey 101 (kyv k) es.toList).run Try.prog v = .ok none v) ∨
      ∃ j f e, g k = some f ∧ es[j]? = some e ∧ e.key = kyv k ∧ (Instr.findKey 101 (kyv k) es.toList).run Try.prog v = .ok (some (j, fdv f)) v) := by
  obtain ⟨es, clock, hb, h1, h2, _⟩ := h
  obtain ⟨l, hl⟩ := key_lits k hk
  refine ⟨es, clock, hb, ?_⟩
  rcases key_law.find v hl es.toList (fun e he => by
      obtain ⟨k', f, hk', _, e1, _⟩ := h1 e he
      rw [e1]
      exact key_lits k' hk') with ⟨hr, hn⟩ | ⟨j, e, hr, hj, he⟩
  · left
    refine ⟨?_, hr⟩
    cases hg : g k with
    | none => rfl
    | some f =>
      obtain ⟨e, he, e1⟩ := h2 k f hg
      exact absurd e1 (hn e he)
  · right
    obtain ⟨k', f, hk', hg, e1, e2⟩ := h1 e (List.mem_of_getElem? hj)
    have := kyv_inj (e1.symm.trans he)
    subst this
    exact ⟨j, f, e, hg, by simpa using hj, he, by rw [hr, e2]⟩

def fdo : Option Fd → Value
  | some f => fdv f
  | none => fd0

theorem Known.look {w : World} {b : Nat} {g : Ky → Option Fd} (h : Known w b g) {k : Ky} (hk : k.small) (ok : Bool) :
    (Instr.lookup 105 (.map (some b)) (kyv k) ok).run Try.prog w = .ok (if ok then .tuple #[fdo (g k), .bool (g k).isSome] else fdo (g k)) w := by
  have ht : Try.prog.underlying 105 = some (.map 101 104) := by kernel_rfl
  have hz : (zeroValue 104).run Try.prog w = .ok fd0 w := by kernel_rfl
  obtain ⟨l, hl⟩ := key_lits k hk
  obtain ⟨es, clock, hb, h⟩ := h.find hk w
  rcases h with ⟨hg, hr⟩ | ⟨j, f, e, hg, _, _, hr⟩
  · cases ok <;> simp [Instr.lookup, run_underlying ht, MapKept.run_getObj_map hb, key_law.check w _ hl, hr, hz, Result.andThen, hg, fdo]
  · cases ok <;> simp [Instr.lookup, run_underlying ht, MapKept.run_getObj_map hb, key_law.check w _ hl, hr, Result.andThen, hg, fdo]

def putF (g : Ky → Option Fd) (k : Ky) (f : Fd) : Ky → Option Fd := fun k' => if k' = k then some f else g k'

set_option maxRecDepth 100000 in
theorem Known.put {w : World} {b : Nat} {g : Ky → Option Fd} (h : Known w b g) {k : Ky} (hk : k.small) (f : Fd) :
    ∃ es' clock', (Instr.mapUpdate 105 (.map (some b)) (kyv k) (fdv f)).run Try.prog w = .ok () { w with heap := w.heap.setIfInBounds b (.map es' clock') } ∧
      Known { w with heap := w.heap.setIfInBounds b (.map es' clock') } b (putF g k f) := by
  have ht : Try.prog.underlying 105 = some (.map 101 104) := by kernel_rfl
  obtain ⟨l, hl⟩ := key_lits k hk
  obtain ⟨es0, clock0, hb0, h1, h2, hst⟩ := h
  obtain ⟨es, clock, hb, h⟩ := (show Known w b g from ⟨es0, clock0, hb0, h1, h2, hst⟩).find hk w
  obtain ⟨hse, hsc⟩ : es0 = es ∧ clock0 = clock := by
    rw [hb0] at hb
    injection hb with hb
    injection hb with hb1 hb2
    exact ⟨hb1, hb2⟩
  subst hse
  subst hsc
  have hlt : b < w.heap.size := (Array.getElem?_eq_some_iff.1 hb).1
  rcases h with ⟨hg, hr⟩ | ⟨j, f0, e0, hg, hj, he, hr⟩
  · refine ⟨es0.push ⟨kyv k, fdv f, clock0⟩, clock0 + 1, ?_, ?_⟩
    · simp [Instr.mapUpdate, run_underlying ht, MapKept.run_getObj_map hb, key_law.check w false hl, hr, MapKept.run_setObj_map _ hb, Result.andThen]
    · refine ⟨es0.push ⟨kyv k, fdv f, clock0⟩, clock0 + 1, by simp [hlt], ?_, ?_, ?_⟩
      · intro e he
        simp only [Array.toList_push, List.mem_append, List.mem_singleton] at he
        rcases he with he | rfl
        · obtain ⟨k', f', hk', hg', e1, e2⟩ := h1 e he
          refine ⟨k', f', hk', ?_, e1, e2⟩
          have : k' ≠ k := fun hh => by rw [hh, hg] at hg'; cases hg'
          unfold putF
          rw [if_neg this, hg']
        · exact ⟨k, f, hk, by simp [putF], rfl, rfl⟩
      · intro k' f' hg'
        by_cases hh : k' = k
        · subst hh
          exact ⟨⟨kyv k', fdv f, clock0⟩, by simp, rfl⟩
        · unfold putF at hg'
          rw [if_neg hh] at hg'
          obtain ⟨e, he, e1⟩ := h2 k' f' hg'
          exact ⟨e, by simp [he], e1⟩
      · refine MapKept.stamped_push hst fun e he e1 => ?_
        obtain ⟨k', f', hk', hg', e2, _⟩ := h1 e he
        have := kyv_inj (e2.symm.trans e1)
        subst this
        rw [hg] at hg'
        cases hg'
  · have hjl : j < es0.size := (Array.getElem?_eq_some_iff.1 hj).1
    refine ⟨es0.modify j (fun e' => { e' with key := kyv k, val := fdv f }), clock0, ?_, ?_⟩
    · simp [Instr.mapUpdate, run_underlying ht, MapKept.run_getObj_map hb, key_law.check w false hl, hr, hj, he, key_law.stays w hl, MapKept.run_setObj_map _ hb, Result.andThen]
    · refine ⟨es0.modify j (fun e' => { e' with key := kyv k, val := fdv f }), clock0, by simp [hlt], ?_, ?_, ?_⟩
      · intro e hm
        obtain ⟨i, hi⟩ := List.getElem?_of_mem hm
        rw [Array.getElem?_toList, Array.getElem?_modify] at hi
        by_cases hij : j = i
        · subst hij
          rw [if_pos rfl, hj] at hi
          simp only [Option.map_some, Option.some.injEq] at hi
          subst hi
          exact ⟨k, f, hk, by simp [putF], rfl, rfl⟩
        · rw [if_neg hij] at hi
          obtain ⟨k', f', hk', hg', e1, e2⟩ := h1 e (List.mem_of_getElem? (by rw [Array.getElem?_toList]; exact hi))
          by_cases hh : k' = k
          · exfalso
            have hp := ((MapKept.stamped_iff es0 clock0).1 hst).2.2
            rw [List.pairwise_iff_getElem] at hp
            have hi2 : i < es0.toList.length := (List.getElem?_eq_some_iff.1 (by rw [Array.getElem?_toList]; exact hi)).1
            have hj2 : j < es0.toList.length := by simpa using hjl
            have ei : es0.toList[i] = e := by
              have := (List.getElem?_eq_some_iff.1 (show es0.toList[i]? = some e by rw [Array.getElem?_toList]; exact hi))
              exact this.2
            have ej : es0.toList[j] = e0 := by
              have := (List.getElem?_eq_some_iff.1 (show es0.toList[j]? = some e0 by rw [Array.getElem?_toList]; exact hj))
              exact this.2
            have hkk : e.key = e0.key := by rw [e1, hh, he]
            rcases Nat.lt_or_gt_of_ne hij with hlt2 | hlt2
            · exact hp j i hj2 hi2 hlt2 (by rw [ei, ej, hkk])
            · exact hp i j hi2 hj2 hlt2 (by rw [ei, ej, hkk])
          · exact ⟨k', f', hk', by unfold putF; rw [if_neg hh, hg'], e1, e2⟩
      · intro k' f' hg'
        by_cases hh : k' = k
        · subst hh
          refine ⟨{ e0 with key := kyv k', val := fdv f }, ?_, rfl⟩
          refine List.mem_of_getElem? (i := j) ?_
          rw [Array.getElem?_toList, Array.getElem?_modify, if_pos rfl, hj]
          rfl
        · unfold putF at hg'
          rw [if_neg hh] at hg'
          obtain ⟨e, hm, e1⟩ := h2 k' f' hg'
          obtain ⟨i, hi⟩ := List.getElem?_of_mem hm
          rw [Array.getElem?_toList] at hi
          have hne : j ≠ i := fun hji => by
            subst hji
            rw [hj] at hi
            injection hi with hi
            subst hi
            exact hh (kyv_inj (e1.symm.trans he))
          refine ⟨e, List.mem_of_getElem? (i := i) ?_, e1⟩
          rw [Array.getElem?_toList, Array.getElem?_modify, if_neg hne, hi]
      · refine MapKept.stamped_modify hst _ _ (fun _ _ => rfl) (fun e' _ he' => ?_)
        rw [hj] at he'
        cases he'
        exact he.symm

end Go.Proofs.Ytgadkelldbibgaa

/- slices.Sort of the three tags of a key: the kit's contract, laid here. -/
namespace Go.Proofs.Ytgadkelldbibgaa
open Go.ChangeShapes Go.WideShapes Go.ChangeAt Go.RowKit
set_option linter.unusedVariables false

section
open Go.Shelf
def laysSort29_ren : Go.Shelf.Ren := ⟨fun | 189 => 102 | 125 => 117 | 257 => 116 | 128 => 129 | 129 => 130 | 294 => 120 | 295 => 121 | 296 => 122 | 297 => 123 | 298 => 124 | 299 => 125 | 216 => 126 | 300 => 127 | 301 => 128 | 328 => 131 | 329 => 132 | 330 => 133 | 331 => 134 | 332 => 135 | 215 => 136 | 343 => 137 | n => n, fun | 28 => 22 | 3 => 3 | 46 => 120 | 0 => 0 | 51 => 130 | 53 => 133 | 4 => 4 | 183 => 146 | 182 => 145 | 131 => 150 | 5 => 5 | 9 => 9 | 218 => 153 | 222 => 157 | 228 => 159 | 229 => 52 | n => n, fun | n => n⟩
theorem laysSort29 : Go.Proofs.Lays.n189 Try.prog laysSort29_ren := {
  mixed := by kernel_rfl
  f125 := Try.func117.trans (congrArg some (by kernel_rfl))
  f128 := Try.func129.trans (congrArg some (by kernel_rfl))
  f129 := Try.func130.trans (congrArg some (by kernel_rfl))
  f189 := Try.func102.trans (congrArg some (by kernel_rfl))
  f215 := Try.func136.trans (congrArg some (by kernel_rfl))
  f216 := Try.func126.trans (congrArg some (by kernel_rfl))
  f257 := Try.func116.trans (congrArg some (by kernel_rfl))
  f294 := Try.func120.trans (congrArg some (by kernel_rfl))
  f295 := Try.func121.trans (congrArg some (by kernel_rfl))
  f296 := Try.func122.trans (congrArg some (by kernel_rfl))
  f297 := Try.func123.trans (congrArg some (by kernel_rfl))
  f298 := Try.func124.trans (congrArg some (by kernel_rfl))
  f299 := Try.func125.trans (congrArg some (by kernel_rfl))
  f300 := Try.func127.trans (congrArg some (by kernel_rfl))
  f301 := Try.func128.trans (congrArg some (by kernel_rfl))
  f328 := Try.func131.trans (congrArg some (by kernel_rfl))
  f329 := Try.func132.trans (congrArg some (by kernel_rfl))
  f330 := Try.func133.trans (congrArg some (by kernel_rfl))
  f331 := Try.func134.trans (congrArg some (by kernel_rfl))
  f332 := Try.func135.trans (congrArg some (by kernel_rfl))
  f343 := Try.func137.trans (congrArg some (by kernel_rfl))
  t0 := Try.underlying0
  a0 := Try.isAgg0
  z0 := Try.sizeOf0
  v0 := Try.zeroValue0
  t3 := Try.underlying3
  a3 := Try.isAgg3
  z3 := Try.sizeOf3
  v3 := Try.zeroValue3
  t4 := Try.underlying4
  a4 := Try.isAgg4
  z4 := Try.sizeOf4
  v4 := Try.zeroValue4
  t5 := Try.underlying5
  a5 := Try.isAgg5
  z5 := Try.sizeOf5
  v5 := Try.zeroValue5
  t9 := Try.underlying9
  a9 := Try.isAgg9
  z9 := Try.sizeOf9
  v9 := Try.zeroValue9
  t28 := Try.underlying22
  a28 := Try.isAgg22
  z28 := Try.sizeOf22
  v28 := Try.zeroValue22
  t46 := Try.underlying120
  a46 := Try.isAgg120
  z46 := Try.sizeOf120
  v46 := Try.zeroValue120
  t51 := Try.underlying130
  a51 := Try.isAgg130
  z51 := Try.sizeOf130
  v51 := Try.zeroValue130
  t53 := Try.underlying133
  a53 := Try.isAgg133
  z53 := Try.sizeOf133
  v53 := Try.zeroValue133
  t131 := Try.underlying150
  a131 := Try.isAgg150
  z131 := Try.sizeOf150
  v131 := Try.zeroValue150
  t182 := Try.underlying145
  a182 := Try.isAgg145
  z182 := Try.sizeOf145
  v182 := Try.zeroValue145
  t183 := Try.underlying146
  a183 := Try.isAgg146
  z183 := Try.sizeOf146
  v183 := Try.zeroValue146
  t218 := Try.underlying153
  a218 := Try.isAgg153
  z218 := Try.sizeOf153
  v218 := Try.zeroValue153
  t222 := Try.underlying157
  a222 := Try.isAgg157
  z222 := Try.sizeOf157
  v222 := Try.zeroValue157
  t228 := Try.underlying159
  a228 := Try.isAgg159
  z228 := Try.sizeOf159
  v228 := Try.zeroValue159
  t229 := Try.underlying52
  a229 := Try.isAgg52
  z229 := Try.sizeOf52
  v229 := Try.zeroValue52 }
end

def kcs (a p x y z : Int) : Nat → Value
  | 0 => .int .i64 a
  | 1 => .int .i64 p
  | 2 => .int .i64 x
  | 3 => .int .i64 y
  | _ => .int .i64 z

theorem sort3_any (b : Nat) (a p x y z : Int) (w : World) (hr : w.rowIs b 101 5 (kcs a p x y z)) :
    Calls Try.prog 102 #[.slice (some ⟨b, 2, none⟩) 3 3] w fun e w' =>
      e = .returned (.tuple #[]) ∧ ∃ x' y' z', [x', y', z'] = [x, y, z].mergeSort (fun i j => decide (i ≤ j)) ∧ w'.rowIs b 101 5 (kcs a p x' y' z') ∧ Keep (· = b) w w' := by
  have hlt := hr.lt
  have hr0 := hr
  obtain ⟨c, hb, hs, hc⟩ := hr
  have hH : Sort.Holds (Value.int .i64) w b 2 [x, y, z].toArray := by
    have hf : ∀ o, w.frozen? ⟨b, o, none⟩ = false := fun o => by
      unfold World.frozen?
      rw [hb]
      simp
    have hcell : ∀ i, i < 5 → w.cell? ⟨b, i, none⟩ = some (kcs a p x y z i) := fun i hi => by
      have := hr0.cell hi
      exact this
    intro j hj
    simp at hj
    refine ⟨?_, hf _⟩
    rw [hcell (2 + j) (by omega)]
    match j, hj with
    | 0, _ => rfl
    | 1, _ => rfl
    | 2, _ => rfl
  refine (Any.slices_Sort_int laysSort29 b 2 3 [x, y, z] w hH hlt (by simp)).mono ?_
  rintro e w' ⟨rfl, n, os, rfl⟩
  refine ⟨rfl, ?_⟩
  obtain ⟨x', y', z', he⟩ : ∃ x' y' z', [x, y, z].mergeSort (fun i j => decide (i ≤ j)) = [x', y', z'] := by
    have hl : ([x, y, z].mergeSort (fun i j => decide (i ≤ j))).length = 3 := by simp
    match h : [x, y, z].mergeSort (fun i j => decide (i ≤ j)), hl with
    | [x', y', z'], _ => exact ⟨x', y', z', rfl⟩
  refine ⟨x', y', z', he.symm, ?_, ?_⟩
  · rw [he]
    refine ⟨Sort.putCells (Value.int .i64) 2 [x', y', z'].toArray c, ?_, by simp [Sort.putCells, hs], fun i hi => ?_⟩
    · have : (w.heap.modify b (Sort.onCells (Sort.putCells (Value.int .i64) 2 [x', y', z'].toArray)) ++ os)[b]? = some (.cells (Sort.putCells (Value.int .i64) 2 [x', y', z'].toArray c) 101 (0, 0)) := by
        rw [Array.getElem?_append, if_pos (by simpa using hlt), Array.getElem?_modify, if_pos rfl, hb]
        rfl
      exact this
    · have h0 := hc i hi
      unfold Sort.putCells
      rw [Array.getElem?_mapIdx, h0]
      match i, hi with
      | 0, _ => rfl
      | 1, _ => rfl
      | 2, _ => rfl
      | 3, _ => rfl
      | 4, _ => rfl
  · refine ⟨rfl, rfl, rfl, by simp, fun k hk hn => ?_⟩
    have : (w.heap.modify b (Sort.onCells (Sort.putCells (Value.int .i64) 2 [x', y', z'].toArray)) ++ os)[k]? = w.heap[k]? := by
      rw [Array.getElem?_append, if_pos (by simpa using hk), Array.getElem?_modify, if_neg (fun h => hn h.symm)]
    rw [he]
    exact this

end Go.Proofs.Ytgadkelldbibgaa

/- best.of: the key of a spot. -/
namespace Go.Proofs.Ytgadkelldbibgaa
open Go.ChangeShapes Go.WideShapes Go.ChangeAt Go.RowKit
set_option linter.unusedVariables false

def OfP (w : World) (a p : Int) (tags : List Int) (e : Ending) (w' : World) : Prop := e = .returned (kyv (kof a p tags)) ∧ KW w w'

theorem whole5 {w : World} {b : Nat} {t : TypeId} {f : Nat → Value} (h : w.rowIs b t 5 f) : w.heap[b]? = some (.cells #[f 0, f 1, f 2, f 3, f 4] t (0, 0)) := by
  obtain ⟨c, hb, hs, hc⟩ := h
  rw [hb]
  have : c = #[f 0, f 1, f 2, f 3, f 4] := by
    apply Array.ext_getElem?
    intro i
    by_cases hi : i < 5
    · rw [hc i hi]
      match i, hi with
      | 0, _ => rfl
      | 1, _ => rfl
      | 2, _ => rfl
      | 3, _ => rfl
      | 4, _ => rfl
    · rw [Array.getElem?_eq_none (by omega), Array.getElem?_eq_none (by simp; omega)]
  rw [this]

theorem kcs_one {a p x y z : Int} : ∀ i, i < 5 → (kcs a p x y z i).oneCell' = true := fun i hi => by
  match i, hi with
  | 0, _ => rfl
  | 1, _ => rfl
  | 2, _ => rfl
  | 3, _ => rfl
  | 4, _ => rfl

theorem of_rows (w : World) (c1 c2 c3 : Array Value) (t1 t2 t3 : TypeId) (f1 f2 f3 : Nat → Value) (h1 : ∀ i, i < c1.size → c1[i]? = some (f1 i)) (h2 : ∀ i, i < c2.size → c2[i]? = some (f2 i)) (h3 : ∀ i, i < c3.size → c3[i]? = some (f3 i)) :
    KW w (((w.alloc (.cells c1 t1)).alloc (.cells c2 t2)).alloc (.cells c3 t3)) ∧ (((w.alloc (.cells c1 t1)).alloc (.cells c2 t2)).alloc (.cells c3 t3)).rowIs w.heap.size t1 c1.size f1 ∧
    (((w.alloc (.cells c1 t1)).alloc (.cells c2 t2)).alloc (.cells c3 t3)).rowIs (w.heap.size + 1) t2 c2.size f2 ∧ (((w.alloc (.cells c1 t1)).alloc (.cells c2 t2)).alloc (.cells c3 t3)).rowIs (w.heap.size + 2) t3 c3.size f3 := by
  have s1 : (w.alloc (.cells c1 t1)).heap.size = w.heap.size + 1 := by simp
  have s2 : ((w.alloc (.cells c1 t1)).alloc (.cells c2 t2)).heap.size = w.heap.size + 2 := by simp
  refine ⟨((((KW.refl w).alloc _).alloc _).alloc _), ?_, ?_, ?_⟩
  · exact KW.row (((KW.refl (w.alloc (.cells c1 t1))).alloc (.cells c2 t2)).alloc (.cells c3 t3)) (by omega) (World.rowIs_alloc w c1 t1 f1 h1)
  · have := World.rowIs_alloc (w.alloc (.cells c1 t1)) c2 t2 f2 h2
    rw [s1] at this
    exact KW.row ((KW.refl ((w.alloc (.cells c1 t1)).alloc (.cells c2 t2))).alloc (.cells c3 t3)) (by omega) this
  · have := World.rowIs_alloc ((w.alloc (.cells c1 t1)).alloc (.cells c2 t2)) c3 t3 f3 h3
    rw [s2] at this
    exact this

set_option maxRecDepth 100000 in
set_option maxHeartbeats 1000000 in
theorem of_some (a p : Int) (g cp : Nat) (tags : List Int) (w : World) (hc : ∀ j, j < tags.length → w.cell? ⟨g, j, none⟩ = some (.int .i64 (tags.getD j 0))) (hg : g < w.heap.size) (hl : tags.length ≤ 3) :
    Calls Try.prog 62 #[.agg #[.int .i64 a, .int .i64 p, .slice (some ⟨g, 0, none⟩) tags.length cp]] w (OfP w a p tags) := by
  unfold OfP
  have HH := hid hc
  clear hc
  generalize hK : kof a p tags = K
  have HKof := hid hK
  clear hK
  generalize hn : tags.length = n at *
  go_enter Try.func62, Try.ntmps62
  go_wp2_with fail
  refine wpCode_world (fun W => KW w W ∧ W.rowIs w.heap.size 24 3 (fun i => #[.int .i64 a, .int .i64 p, .slice (some ⟨g, 0, none⟩) n cp].getD i undef) ∧ W.rowIs (w.heap.size + 1) 101 5 (kcs 0 0 0 0 0) ∧ W.rowIs (w.heap.size + 2) 101 5 (kcs a p (-2) (-2) (-2))) ?_ ?_
  · exact of_rows w #[.int .i64 a, .int .i64 p, .slice (some ⟨g, 0, none⟩) n cp] #[.int .i64 0, .int .i64 0, .int .i64 0, .int .i64 0, .int .i64 0] #[.int .i64 a, .int .i64 p, .int .i64 (-2), .int .i64 (-2), .int .i64 (-2)] _ _ _ _ _ _
      (fun i hi => by match i, hi with | 0, _ => rfl | 1, _ => rfl | 2, _ => rfl)
      (fun i hi => by match i, hi with | 0, _ => rfl | 1, _ => rfl | 2, _ => rfl | 3, _ => rfl | 4, _ => rfl)
      (fun i hi => by match i, hi with | 0, _ => rfl | 1, _ => rfl | 2, _ => rfl | 3, _ => rfl | 4, _ => rfl)
  rintro W ⟨hk, hb, hres, hkey⟩
  have c2 := hb.cell (i := 2) (by omega)
  have c2' : W.cell? ⟨w.heap.size, 2, none⟩ = some (.slice (some ⟨g, 0, none⟩) n cp) := c2
  clear c2
  have HKEY := hid hkey
  have HRES := hid hres
  have HKK := hid hk
  clear hkey hres hk hb
  go_still_tail 4, (by kernel_rfl)
  change wpList _ _ _ _ _ W.drew
  have HM := hid (show n = min n 3 by omega)
  refine wpList_copy_is rfl (dT := 22) (sT := 22) rfl Try.underlying22 (by kernel_rfl) (g := w.heap.size + 2) (off := 2) (N := 5) (m := n) (ad := ⟨g, 0, none⟩) (h := fun j => .int .i64 (tags.getD j 0)) rfl rfl HKEY.out.drew HM.out (fun j hj => ?_) (by omega) (fun _ _ => rfl) ?_
  · have e : (⟨g, 0, none⟩ : Addr).add j = ⟨g, j, none⟩ := by unfold Addr.add; split <;> simp_all
    rw [e]
    exact KW.cell HKK.out.drew hg (HH.out j hj)
  intro W2 hrow hkeep
  obtain ⟨x, y, z, hkey2, hxyz⟩ : ∃ x y z, W2.rowIs (w.heap.size + 2) 101 5 (kcs a p x y z) ∧ [tags.getD 0 (-2), tags.getD 1 (-2), tags.getD 2 (-2)] = [x, y, z] := by
    refine ⟨_, _, _, hrow.congr (g := kcs a p (tags.getD 0 (-2)) (tags.getD 1 (-2)) (tags.getD 2 (-2))) fun i hi => ?_, rfl⟩
    have hd : ∀ j, j < n → tags.getD j 0 = tags.getD j (-2) := fun j hj => by
      simp [List.getD_eq_getElem?_getD, show j < tags.length by omega]
    have hd2 : ∀ j, n ≤ j → tags.getD j (-2) = -2 := fun j hj => by
      simp [List.getD_eq_getElem?_getD, show tags.length ≤ j by omega]
    match i, hi with
    | 0, _ => rfl
    | 1, _ => rfl
    | 2, _ =>
      by_cases h1 : 0 < n
      · rw [if_pos ⟨by omega, by omega⟩]
        simp only [kcs, hd 0 h1]
      · rw [if_neg (by omega)]
        simp only [kcs, hd2 0 (by omega)]
    | 3, _ =>
      by_cases h1 : 1 < n
      · rw [if_pos ⟨by omega, by omega⟩]
        simp only [kcs, hd 1 h1]
      · rw [if_neg (by omega)]
        simp only [kcs, hd2 1 (by omega)]
    | 4, _ =>
      by_cases h1 : 2 < n
      · rw [if_pos ⟨by omega, by omega⟩]
        simp only [kcs, hd 2 h1]
      · rw [if_neg (by omega)]
        simp only [kcs, hd2 2 (by omega)]
  have HRES2 := hid (hkeep.row (by omega) HRES.out.drew)
  have HKK2 := hid (show KW w W2 from HKK.out.drew.kept hkeep fun i hi => by omega)
  have HKEY2 := hid hkey2
  have HXYZ := hid hxyz
  clear hrow hkeep hkey2 hxyz HKEY HRES HKK c2'
  go_wp2_with (first
    | (go_at_call 102; refine (sort3_any (w.heap.size + 2) a p x y z _ HKEY2.out).mono ?_; rintro e w1 ⟨rfl, x', y', z', he, hrk, hb⟩; have HRES3 := hid (hb.row (by omega) HRES2.out); have HKEY3 := hid hrk; have HKK3 := hid (show KW w w1 from HKK2.out.kept hb fun i hi => by omega); clear hb hrk)
    | (refine wpList_load_is rfl _ _ rfl (w.heap.size + 1 + 1) 5 101 (kcs a p x' y' z') rfl _ HKEY3.out Try.underlying101 rfl (by kernel_rfl) ?_; intro cells hcs hcc)
    | (refine wpList_store_is rfl _ _ _ rfl (w.heap.size + 1) 5 101 _ (kcs a p x' y' z') cells rfl rfl HRES3.out (by kernel_rfl) hcs hcc kcs_one ?_; intro W4 hrow4 hkeep4 _; have HP := hid (whole5 hrow4); have HK4 := hid (HKK3.out.kept hkeep4 fun i hi => by omega); clear hrow4 hkeep4))
  have hkof : K = ⟨a, p, x', y', z'⟩ := by
    rw [← HKof.out]
    unfold kof pad3
    rw [HXYZ.out, ← he]
  rw [hkof]
  exact bodyPost_ret (results_cell_row rfl _ _ _ _ _ (0, 0) _ rfl HP.out Try.underlying101 rfl (by kernel_rfl)) rfl ⟨rfl, HK4.out⟩

set_option maxRecDepth 100000 in
set_option maxHeartbeats 1000000 in
theorem of_none (a p : Int) (w : World) :
    Calls Try.prog 62 #[.agg #[.int .i64 a, .int .i64 p, .slice none 0 0]] w (OfP w a p []) := by
  unfold OfP
  generalize hK : kof a p [] = K
  have HKof := hid hK
  clear hK
  go_enter Try.func62, Try.ntmps62
  go_wp2_with fail
  refine wpCode_world (fun W => KW w W ∧ W.rowIs w.heap.size 24 3 (fun i => #[.int .i64 a, .int .i64 p, .slice none 0 0].getD i undef) ∧ W.rowIs (w.heap.size + 1) 101 5 (kcs 0 0 0 0 0) ∧ W.rowIs (w.heap.size + 2) 101 5 (kcs a p (-2) (-2) (-2))) ?_ ?_
  · exact of_rows w #[.int .i64 a, .int .i64 p, .slice none 0 0] #[.int .i64 0, .int .i64 0, .int .i64 0, .int .i64 0, .int .i64 0] #[.int .i64 a, .int .i64 p, .int .i64 (-2), .int .i64 (-2), .int .i64 (-2)] _ _ _ _ _ _
      (fun i hi => by match i, hi with | 0, _ => rfl | 1, _ => rfl | 2, _ => rfl)
      (fun i hi => by match i, hi with | 0, _ => rfl | 1, _ => rfl | 2, _ => rfl | 3, _ => rfl | 4, _ => rfl)
      (fun i hi => by match i, hi with | 0, _ => rfl | 1, _ => rfl | 2, _ => rfl | 3, _ => rfl | 4, _ => rfl)
  rintro W ⟨hk, hb, hres, hkey⟩
  have c2 := hb.cell (i := 2) (by omega)
  have c2' : W.cell? ⟨w.heap.size, 2, none⟩ = some (.slice none 0 0) := c2
  clear c2
  have HKEY := hid hkey
  have HRES := hid hres
  have HKK := hid hk
  clear hkey hres hk hb
  go_still_tail 4, (by kernel_rfl)
  change wpList _ _ _ _ _ W.drew
  refine wpList_copy_nothing rfl _ _ 22 22 rfl 3 Try.underlying22 (by kernel_rfl) _ _ _ _ _ _ rfl rfl rfl ?_
  obtain ⟨x, y, z, hkey2, hxyz⟩ : ∃ x y z, W.drew.rowIs (w.heap.size + 2) 101 5 (kcs a p x y z) ∧ [([] : List Int).getD 0 (-2), ([] : List Int).getD 1 (-2), ([] : List Int).getD 2 (-2)] = [x, y, z] := ⟨_, _, _, HKEY.out.drew, rfl⟩
  have HRES2 := hid HRES.out.drew
  have HKK2 := hid HKK.out.drew
  have HKEY2 := hid hkey2
  have HXYZ := hid hxyz
  clear hkey2 hxyz HKEY HRES HKK c2'
  go_wp2_with (first
    | (go_at_call 102; refine (sort3_any (w.heap.size + 2) a p x y z _ HKEY2.out).mono ?_; rintro e w1 ⟨rfl, x', y', z', he, hrk, hb⟩; have HRES3 := hid (hb.row (by omega) HRES2.out); have HKEY3 := hid hrk; have HKK3 := hid (show KW w w1 from HKK2.out.kept hb fun i hi => by omega); clear hb hrk)
    | (refine wpList_load_is rfl _ _ rfl (w.heap.size + 1 + 1) 5 101 (kcs a p x' y' z') rfl _ HKEY3.out Try.underlying101 rfl (by kernel_rfl) ?_; intro cells hcs hcc)
    | (refine wpList_store_is rfl _ _ _ rfl (w.heap.size + 1) 5 101 _ (kcs a p x' y' z') cells rfl rfl HRES3.out (by kernel_rfl) hcs hcc kcs_one ?_; intro W4 hrow4 hkeep4 _; have HP := hid (whole5 hrow4); have HK4 := hid (HKK3.out.kept hkeep4 fun i hi => by omega); clear hrow4 hkeep4))
  have hkof : K = ⟨a, p, x', y', z'⟩ := by
    rw [← HKof.out]
    unfold kof pad3
    rw [HXYZ.out, ← he]
  rw [hkof]
  exact bodyPost_ret (results_cell_row rfl _ _ _ _ _ (0, 0) _ rfl HP.out Try.underlying101 rfl (by kernel_rfl)) rfl ⟨rfl, HK4.out⟩

theorem of_any (a p : Int) (vt : Value) (tags : List Int) (base : Nat) (w : World) (hh : Owns w base 3 vt (ints tags)) (hl : tags.length ≤ 3) :
    Calls Try.prog 62 #[.agg #[.int .i64 a, .int .i64 p, vt]] w (OfP w a p tags) := by
  have hlen : (ints tags).length = tags.length := by simp [ints]
  rcases hh.2 with ⟨rfl, h0⟩ | ⟨g, cp, cur, rfl, _, hb, hcap, _, hs, ht⟩
  · have : tags = [] := by
      cases tags with
      | nil => rfl
      | cons _ _ => simp at hlen; omega
    subst this
    exact of_none a p w
  · rw [hlen] at ht ⊢
    refine of_some a p g cp tags w (fun j hj => ?_) (Array.getElem?_eq_some_iff.1 hb).1 hl
    have h1 : (ints tags)[j]? = some (.int .i64 (tags.getD j 0)) := by
      simp [ints, List.getD_eq_getElem?_getD, hj]
    rw [← ht, List.getElem?_take, if_pos (by omega), Array.getElem?_toList] at h1
    simp [World.cell?, hb, h1]

end Go.Proofs.Ytgadkelldbibgaa

/- Lists of keys in slices: near and far of best.Search. -/
namespace Go.Proofs.Ytgadkelldbibgaa
open Go.ChangeShapes Go.WideShapes Go.ChangeAt Go.RowKit
set_option linter.unusedVariables false

theorem sliceKey : SliceOfS Try.prog 106 101 (.agg #[.int .i64 0, .int .i64 0, .int .i64 0, .int .i64 0, .int .i64 0]) 5 40 := ⟨Try.underlying106, by kernel_rfl, rfl, by omega⟩
/-- a key's cells -/
def kcl1 (k : Ky) : List Value := [.int .i64 k.at_, .int .i64 k.pend, .int .i64 k.x, .int .i64 k.y, .int .i64 k.z]
def kcl (l : List Ky) : List Value := l.flatMap kcl1
theorem kcl_app (l l' : List Ky) : kcl (l ++ l') = kcl l ++ kcl l' := by simp [kcl]
theorem kcl_one (k : Ky) : kcl [k] = kcl1 k := by simp [kcl]
theorem kcl_len (l : List Ky) : (kcl l).length = l.length * 5 := by
  induction l with
  | nil => rfl
  | cons a l ih =>
    have e : kcl (a :: l) = kcl1 a ++ kcl l := rfl
    rw [e, List.length_append, ih]
    simp only [List.length_cons, kcl1, List.length_nil]
    omega
theorem kcl_one' (l : List Ky) : ∀ x ∈ kcl l, x.oneCell' = true := by
  intro x hx
  obtain ⟨a, _, ha⟩ := List.mem_flatMap.1 hx
  simp only [kcl1, List.mem_cons, List.not_mem_nil, or_false] at ha
  rcases ha with rfl | rfl | rfl | rfl | rfl <;> rfl

/-- v is a slice of a block from base on, and holds these keys -/
def OwnsK (w : World) (base : Nat) (v : Value) (l : List Ky) : Prop := w.ownsRow base 101 5 v l.length (kcl l)
theorem OwnsK.nil (w : World) (base : Nat) : OwnsK w base (.slice none 0 0) [] := World.ownsRow_nil _ _ _ _
theorem OwnsK.lt {w : World} {base : Nat} {v : Value} {l : List Ky} (h : OwnsK w base v l) {b : Nat} (hb : v.ownBlock = some b) : base ≤ b ∧ b < w.heap.size := World.ownsRow.lt h b hb
theorem OwnsK.keep {own : Nat → Prop} {w w' : World} {base : Nat} {v : Value} {l : List Ky} (h : OwnsK w base v l) (hk : Keep own w w') (hn : ∀ b, v.ownBlock = some b → ¬ own b) : OwnsK w' base v l := by
  refine ⟨h.1, ?_⟩
  rcases h.2 with hx | ⟨g, cap, cur, rfl, hb, hg, rest⟩
  · exact .inl hx
  · exact .inr ⟨g, cap, cur, rfl, hb, (hk.block g (Array.getElem?_eq_some_iff.1 hg).1 (hn g rfl)).trans hg, rest⟩
theorem OwnsK.kw {w w' : World} {base : Nat} {v : Value} {l : List Ky} (h : OwnsK w base v l) (hk : KW w w') : OwnsK w' base v l := h.keep (hk.keep (own := fun _ => False)) fun _ _ h => h
theorem OwnsK.base {w : World} {base base' : Nat} {v : Value} {l : List Ky} (h : OwnsK w base v l) (hb : base' ≤ base) : OwnsK w base' v l :=
  ⟨h.1, h.2.imp id fun ⟨g, cap, cur, hv, hg, r⟩ => ⟨g, cap, cur, hv, Nat.le_trans hb hg, r⟩⟩
theorem OwnsK.slice {w : World} {base : Nat} {v : Value} {l : List Ky} (h : OwnsK w base v l) : ∃ A c, v = .slice A l.length c ∧ l.length ≤ c ∧ (A = none → c = 0) := by
  rcases h.2 with ⟨rfl, h0⟩ | ⟨b, cap, cur, rfl, hb, hg, hc, _⟩
  · exact ⟨none, 0, by rw [h0], by omega, fun _ => rfl⟩
  · exact ⟨_, cap, rfl, hc, fun h => by cases h⟩
theorem OwnsK.app {w : World} {base : Nat} {v : Value} {l l' : List Ky} (h : w.ownsRow base 101 5 v (l.length + l'.length) (kcl l ++ kcl l')) : OwnsK w base v (l ++ l') := by
  unfold OwnsK
  rw [List.length_append, kcl_app]
  exact h

/-- THE LAST ONE: where it lies, and what is left without it -/
theorem OwnsK.last {w : World} {base : Nat} {v : Value} {l : List Ky} {k : Ky} (h : OwnsK w base v (l ++ [k])) :
    ∃ g cap, v = .slice (some ⟨g, 0, none⟩) (l.length + 1) cap ∧ base ≤ g ∧ g < w.heap.size ∧ l.length + 1 ≤ cap ∧ (∀ i, i < 5 → w.cell? ⟨g, l.length * 5 + i, none⟩ = (kcl1 k)[i]?) ∧ OwnsK w base (.slice (some ⟨g, 0, none⟩) l.length cap) l := by
  have hlen : (l ++ [k]).length = l.length + 1 := by simp
  have hx := h
  unfold OwnsK at hx
  rw [hlen] at hx
  rcases hx.2 with ⟨_, h0⟩ | ⟨g, cap, cur, rfl, hb, hg, hc, hm, hs, ht⟩
  · omega
  · have hlt := (Array.getElem?_eq_some_iff.1 hg).1
    refine ⟨g, cap, rfl, hb, hlt, hc, fun i hi => ?_, kcl_len l, .inr ⟨g, cap, cur, rfl, hb, hg, by omega, hm, hs, ?_⟩⟩
    · have h1 : (kcl (l ++ [k]))[l.length * 5 + i]? = (kcl1 k)[i]? := by
        rw [kcl_app, kcl_one, List.getElem?_append_right (by rw [kcl_len]; omega), kcl_len]
        congr 1
        omega
      rw [← ht, List.getElem?_take, if_pos (by omega), Array.getElem?_toList] at h1
      simp only [World.cell?, hg]
      exact h1
    · have h1 : kcl l = (kcl (l ++ [k])).take (l.length * 5) := by
        rw [kcl_app, List.take_left' (kcl_len l)]
      rw [h1, ← ht, List.take_take]
      congr 1
      omega

end Go.Proofs.Ytgadkelldbibgaa

/- What best.Search holds in memory; look-up and store in its map, at the operation. -/
namespace Go.Proofs.Ytgadkelldbibgaa
open Go.ChangeShapes Go.WideShapes Go.ChangeAt Go.RowKit
set_option linter.unusedVariables false

section
variable {ops : Array Oper} {Q : Exit → Act → World → Prop}
theorem wpList_look (w : World) {rest : List Oper} {o : Oper} {a : Act} (hg : o.guard = none) (m x : Operand) (ok : Bool) (hop : o.op = Op.lookup 105 m x ok)
    (b : Nat) (g : Ky → Option Fd) (hm : a.eval m = .map (some b)) (hK : Known w b g) (k : Ky) (hx : a.eval x = kyv k) (hk : k.small)
    (val : Value) (hv : (if ok = true then .tuple #[fdo (g k), .bool (g k).isSome] else fdo (g k)) = val) (h : wpList Try.prog ops Q rest (a.put o.dst val) w) : wpList Try.prog ops Q (o :: rest) a w := by
  subst hv
  refine wpList_plain hg fun K' hK' => ?_
  have hrun := hK.look hk ok
  unfold Oper.wp
  simp [execOp, hop, hm, hx, hrun, Result.andThen]
  exact hK' _ _ (by simpa using h)

theorem Known.keepPut {w : World} {b : Nat} {es : Array MapEntry} {clock : Nat} {es' : Array MapEntry} {clock' : Nat} (hb : w.heap[b]? = some (.map es clock)) :
    Keep (· = b) w { w with heap := w.heap.setIfInBounds b (.map es' clock') } :=
  ⟨rfl, rfl, rfl, by simp, fun k hk hn => by simp [Ne.symm hn]⟩

theorem wpList_kput (w : World) {rest : List Oper} {o : Oper} {a : Act} (hg : o.guard = none) (m x v : Operand) (hop : o.op = Op.mapUpdate 105 m x v ∨ o.op = Op.insert 105 m x v)
    (b : Nat) (g : Ky → Option Fd) (hm : a.eval m = .map (some b)) (hK : Known w b g) (k : Ky) (hx : a.eval x = kyv k) (hk : k.small) (f : Fd) (hv : a.eval v = fdv f)
    (h : ∀ w', Known w' b (putF g k f) → Keep (· = b) w w' → w'.heap.size = w.heap.size → wpList Try.prog ops Q rest (a.put o.dst undef) w') : wpList Try.prog ops Q (o :: rest) a w := by
  refine wpList_plain hg fun K' hK' => ?_
  obtain ⟨es', clock', hrun, hK2⟩ := hK.put hk f
  obtain ⟨es, clock, hb, _⟩ := hK
  unfold Oper.wp
  rcases hop with hop | hop
  · simp [execOp, hop, hm, hx, hv, hrun, Result.andThen]
    exact hK' _ _ (h _ hK2 (Known.keepPut hb) (by simp))
  · simp [execOp, hop, hm, hx, hv, hrun, Result.andThen]
    exact hK' _ _ (h _ hK2 (Known.keepPut hb) (by simp))
end

theorem Known.keep {own : Nat → Prop} {w w' : World} {b : Nat} {g : Ky → Option Fd} (h : Known w b g) (hk : Keep own w w') (hn : ¬ own b) : Known w' b g := by
  obtain ⟨es, clock, hb, r⟩ := h
  exact ⟨es, clock, (hk.block b (Array.getElem?_eq_some_iff.1 hb).1 hn).trans hb, r⟩

/-- the blocks of a search: the total, the map's box, the key's box, near, far, the map -/
structure Bx where
  bt : Nat
  bk : Nat
  bq : Nat
  bn : Nat
  bf : Nat
  mb : Nat
  base : Nat
def Bx.S (b : Bx) (i : Nat) : Prop := i = b.bt ∨ i = b.bk ∨ i = b.bn ∨ i = b.bf ∨ i = b.mb
def IsKy (w : World) (i : Nat) : Prop := ∃ c fr, w.heap[i]? = some (.cells c 101 fr)
/-- what a search writes: its own blocks, and blocks of keys that were made since it began -/
def Bx.own (b : Bx) (w : World) (i : Nat) : Prop := b.S i ∨ (b.base ≤ i ∧ IsKy w i)

def Fits (w : World) (b : Bx) (gd : Ky → Option Fd) (g : Sx.G) : Prop :=
  ∀ k, (gd k = none ∧ g k = none) ∨ ∃ fd f v, gd k = some fd ∧ g k = some f ∧ fd.tot = f.m.tot ∧ fd.kind = f.kind ∧ fd.n = f.n ∧ fd.from_ = f.from_ ∧ fd.first = f.first ∧ Mach w fd.mb v f.m ∧ ∀ i, mo fd.mb v i → ¬ b.S i

structure Mem (w : World) (b : Bx) (T : Int) (near far : List Ky) (g : Sx.G) (q : Option Ky) : Prop where
  tot : w.rowIs b.bt 3 1 (fun _ => .int .i64 T)
  kb : w.rowIs b.bk 105 1 (fun _ => .map (some b.mb))
  nf : ∃ vn vf, w.rowIs b.bn 106 1 (fun _ => vn) ∧ w.rowIs b.bf 106 1 (fun _ => vf) ∧ OwnsK w b.base vn near ∧ OwnsK w b.base vf far ∧ (∀ i, vn.ownBlock = some i → vf.ownBlock ≠ some i) ∧
    ∀ k, q = some k → w.rowIs b.bq 101 5 (kcs k.at_ k.pend k.x k.y k.z) ∧ vn.ownBlock ≠ some b.bq ∧ vf.ownBlock ≠ some b.bq
  ne : b.bn ≠ b.bf
  bl : b.base ≤ w.heap.size
  kn : ∃ gd, Known w b.mb gd ∧ Fits w b gd g

theorem Mach.notKy {w : World} {b : Nat} {v : Value} {m : Mc.St} (h : Mach w b v m) : ∀ i, mo b v i → ¬ IsKy w i := by
  rintro i (rfl | hi) ⟨c, fr, hb⟩
  · obtain ⟨c', hb', _⟩ := h.1
    rw [hb] at hb'
    injection hb' with hb'
    injection hb' with _ ht
    exact absurd ht (by decide)
  · obtain ⟨A, cc, rfl, _, hx⟩ := h.2
    unfold tbk at hi
    cases A with
    | none => cases hi
    | some ad =>
      simp only at hi
      by_cases h0 : m.tags.length = 0
      · rw [if_pos h0] at hi; cases hi
      · rw [if_neg h0] at hi
        obtain ⟨tb, N, f, e1, _, _, hr, _⟩ := hx (by omega)
        cases e1
        cases hi
        obtain ⟨c', hb', _⟩ := hr
        rw [hb] at hb'
        injection hb' with hb'
        injection hb' with _ ht
        exact absurd ht (by decide)

end Go.Proofs.Ytgadkelldbibgaa

/- best.Search's closure: what it does with one that came next. -/
namespace Go.Proofs.Ytgadkelldbibgaa
open Go.ChangeShapes Go.WideShapes Go.ChangeAt Go.RowKit
set_option linter.unusedVariables false

theorem Mem.kw {w w' : World} {b : Bx} {T : Int} {near far : List Ky} {g : Sx.G} {q : Option Ky} (h : Mem w b T near far g q) (hk : KW w w') : Mem w' b T near far g q := by
  obtain ⟨h1, h2, ⟨vn, vf, n1, n2, n3, n4, n5, n6⟩, h4, h40, gd, h5, h6⟩ := h
  refine ⟨KW.row hk h1.lt h1, KW.row hk h2.lt h2, ⟨vn, vf, KW.row hk n1.lt n1, KW.row hk n2.lt n2, n3.kw hk, n4.kw hk, n5, fun k hq => ?_⟩, h4, Nat.le_trans h40 hk.size, gd, h5.keep (hk.keep (own := fun _ => False)) id, fun k => ?_⟩
  · obtain ⟨r1, r2, r3⟩ := n6 k hq
    exact ⟨KW.row hk r1.lt r1, r2, r3⟩
  · rcases h6 k with h | ⟨fd, f, v, e1, e2, e3, e4, e5, e6, e7, e8, e9⟩
    · exact .inl h
    · exact .inr ⟨fd, f, v, e1, e2, e3, e4, e5, e6, e7, e8.kw hk, e9⟩

theorem cells5 {cs : Array Value} {f : Nat → Value} (hs : cs.size = 5) (hc : ∀ i, i < 5 → cs[i]? = some (f i)) : cs = #[f 0, f 1, f 2, f 3, f 4] := by
  apply Array.ext_getElem?
  intro i
  by_cases hi : i < 5
  · rw [hc i hi]
    match i, hi with
    | 0, _ => rfl
    | 1, _ => rfl
    | 2, _ => rfl
    | 3, _ => rfl
    | 4, _ => rfl
  · rw [Array.getElem?_eq_none (by omega), Array.getElem?_eq_none (by simp; omega)]

theorem of_to (a p : Int) (vt : Value) (tags : List Int) (base : Nat) (w : World) (hh : Owns w base 3 vt (ints tags)) (hl : tags.length ≤ 3) (K : Ky) (hK : kof a p tags = K) :
    Calls Try.prog 62 #[.agg #[.int .i64 a, .int .i64 p, vt]] w fun e w' => e = .returned (.agg #[.int .i64 K.at_, .int .i64 K.pend, .int .i64 K.x, .int .i64 K.y, .int .i64 K.z]) ∧ KW w w' := by
  refine (of_any a p vt tags base w hh hl).mono ?_
  rintro e w' ⟨rfl, hb⟩
  rw [hK]
  exact ⟨rfl, hb⟩

def seeArgs (a n : Int) (mb : Nat) (b : Bx) : Array Value := #[.agg #[.int .i64 a, .int .i64 n], .pointer (some ⟨mb, 0, none⟩), .pointer (some ⟨b.bt, 0, none⟩), .pointer (some ⟨b.bk, 0, none⟩), .pointer (some ⟨b.bq, 0, none⟩), .pointer (some ⟨b.bn, 0, none⟩), .pointer (some ⟨b.bf, 0, none⟩)]

set_option maxRecDepth 100000 in
set_option maxHeartbeats 1000000 in
theorem see_old1 (w : World) (b : Bx) (T : Int) (near far : List Ky) (g : Sx.G) (k : Ky) (n : Int) (mb : Nat) (v : Value) (m : Mc.St) (gd : Ky → Option Fd) (fd : Fd) (to : Ky) (hto : kof m.at_ m.pend m.tags = to)
    (hM : Mem w b T near far g (some k)) (hm : Mach w mb v m) (hl : m.tags.length ≤ 3) (hs : to.small) (hgd : Known w b.mb gd) (hfd : gd to = some fd) (hle : fd.tot ≤ T + 1) (ht0 : 0 ≤ T) (ht1 : T ≤ 1000000) :
    Calls Try.prog 65 (seeArgs 1 n mb b) w fun e w' => e = .returned (.tuple #[]) ∧ KW w w' := by
  have c1 := hM.tot.cell (i := 0) (by omega)
  have c2 := hM.kb.cell (i := 0) (by omega)
  have l1 := hM.tot.lt
  have l2 := hM.kb.lt
  have L1 : IntKind.i64.wrap (T + 1) = T + 1 := IntWalk.i64_in _ (by omega)
  have L2 : decide (fd.tot ≤ T + 1) = true := decide_eq_true hle
  have HM := hid hm
  have HG := hid hgd
  have HS := hid hs
  have HF := hid hfd
  have hk := KW.refl w
  clear hM hm hgd hs hfd
  unfold seeArgs
  go_enter Try.func65, Try.ntmps65
  have HL : Hid ((if true = true then (.tuple #[fdo (gd to), .bool (gd to).isSome] : Value) else fdo (gd to)) = .tuple #[fdv fd, .bool true]) := by
    show _ = _
    rw [if_pos rfl, HF.out]
    rfl
  go_wp2_with (first
    | (go_at_call 23; refine (spot_any m mb v _ (HM.out.kw ((KW.refl w).alloc _)) (by omega)).mono ?_; rintro e w1 ⟨u, rfl, hu, hb⟩; have hk1 := hid (((KW.refl w).alloc _).t hb); clear hb)
    | (go_at_call 62; refine (of_to m.at_ m.pend u m.tags _ _ hu hl to hto).mono ?_; rintro e w2 ⟨rfl, hb2⟩; have hk2 := hid (hk1.out.t hb2); have c3 := KW.cell hk2.out l2 c2; have l3 : b.bk < w2.heap.size := Nat.lt_of_lt_of_le l2 hk2.out.size; have HG2 := hid (HG.out.keep (hk2.out.keep (own := fun _ => False)) id); clear hb2)
    | (at_lookup; refine wpList_look _ rfl _ _ true rfl b.mb gd rfl (HG2.out.keep (((KW.refl w2).alloc _).keep (own := fun _ => False)) id) to rfl HS.out _ HL.out ?_; unfold fdv))
  refine bodyPost_ret (results_none rfl _ _ _) rfl ?_
  exact ⟨rfl, ((hk2.out.alloc _).alloc _)⟩

set_option maxRecDepth 100000 in
set_option maxHeartbeats 1000000 in
theorem see_old0 (w : World) (b : Bx) (T : Int) (near far : List Ky) (g : Sx.G) (k : Ky) (n : Int) (mb : Nat) (v : Value) (m : Mc.St) (gd : Ky → Option Fd) (fd : Fd) (to : Ky) (hto : kof m.at_ m.pend m.tags = to)
    (hM : Mem w b T near far g (some k)) (hm : Mach w mb v m) (hl : m.tags.length ≤ 3) (hs : to.small) (hgd : Known w b.mb gd) (hfd : gd to = some fd) (hle : fd.tot ≤ T) (a : Int) (ha : a ≠ 1) (ht0 : 0 ≤ T) (ht1 : T ≤ 1000000) :
    Calls Try.prog 65 (seeArgs a n mb b) w fun e w' => e = .returned (.tuple #[]) ∧ KW w w' := by
  have c1 := hM.tot.cell (i := 0) (by omega)
  have c2 := hM.kb.cell (i := 0) (by omega)
  have l1 := hM.tot.lt
  have l2 := hM.kb.lt
  have L1 : (a == 1) = false := beq_eq_false_iff_ne.2 ha
  have L2 : decide (fd.tot ≤ T) = true := decide_eq_true hle
  have HM := hid hm
  have HG := hid hgd
  have HS := hid hs
  have HF := hid hfd
  have hk := KW.refl w
  clear hM hm hgd hs hfd
  unfold seeArgs
  go_enter Try.func65, Try.ntmps65
  have HL : Hid ((if true = true then (.tuple #[fdo (gd to), .bool (gd to).isSome] : Value) else fdo (gd to)) = .tuple #[fdv fd, .bool true]) := by
    show _ = _
    rw [if_pos rfl, HF.out]
    rfl
  go_wp2_with (first
    | (go_at_call 23; refine (spot_any m mb v _ (HM.out.kw ((KW.refl w).alloc _)) (by omega)).mono ?_; rintro e w1 ⟨u, rfl, hu, hb⟩; have hk1 := hid (((KW.refl w).alloc _).t hb); clear hb)
    | (go_at_call 62; refine (of_to m.at_ m.pend u m.tags _ _ hu hl to hto).mono ?_; rintro e w2 ⟨rfl, hb2⟩; have hk2 := hid (hk1.out.t hb2); have c3 := KW.cell hk2.out l2 c2; have l3 : b.bk < w2.heap.size := Nat.lt_of_lt_of_le l2 hk2.out.size; have HG2 := hid (HG.out.keep (hk2.out.keep (own := fun _ => False)) id); clear hb2)
    | (at_lookup; refine wpList_look _ rfl _ _ true rfl b.mb gd rfl (HG2.out.keep (((KW.refl w2).alloc _).keep (own := fun _ => False)) id) to rfl HS.out _ HL.out ?_; unfold fdv))
  refine bodyPost_ret (results_none rfl _ _ _) rfl ?_
  exact ⟨rfl, ((hk2.out.alloc _).alloc _)⟩

end Go.Proofs.Ytgadkelldbibgaa
