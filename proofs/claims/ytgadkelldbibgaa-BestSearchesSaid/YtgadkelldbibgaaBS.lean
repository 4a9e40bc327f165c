/- Several texts in one. -/
import Derived.Test.YtgadkelldbibgaaBX
import Derived.Test.YtgadkelldbibgaaBY
import Derived.Test.YtgadkelldbibgaaM6
import Derived.Test.YtgadkelldbibgaaPF
import Derived.WalkMore
/- best.Search's closure, as one law: what it does with what came next. -/
namespace Go.Proofs.Ytgadkelldbibgaa
open Go.ChangeShapes Go.WideShapes Go.ChangeAt Go.RowKit
set_option linter.unusedVariables false

theorem row_ne {w : World} {i j n n' : Nat} {t t' : TypeId} {f f' : Nat → Value} (h : w.rowIs i t n f) (h' : w.rowIs j t' n' f') (hne : t ≠ t') : i ≠ j := by
  rintro rfl
  obtain ⟨c, hb, _⟩ := h
  obtain ⟨c', hb', _⟩ := h'
  rw [hb] at hb'
  injection hb' with hb'
  injection hb' with _ h3
  exact hne h3

theorem OwnsK.isKy {w : World} {base i : Nat} {v : Value} {l : List Ky} (h : OwnsK w base v l) (hi : v.ownBlock = some i) : IsKy w i := by
  rcases h.2 with ⟨rfl, h0⟩ | ⟨g, cap, cur, rfl, hb, hg, _⟩
  · cases hi
  · cases hi
    exact ⟨_, _, hg⟩

def Bx.swap (b : Bx) : Bx := ⟨b.bt, b.bk, b.bq, b.bf, b.bn, b.mb, b.base⟩
theorem Bx.swap_S (b : Bx) (i : Nat) : b.swap.S i ↔ b.S i := by
  unfold Bx.S Bx.swap
  constructor
  · rintro (h | h | h | h | h)
    · exact .inl h
    · exact .inr (.inl h)
    · exact .inr (.inr (.inr (.inl h)))
    · exact .inr (.inr (.inl h))
    · exact .inr (.inr (.inr (.inr h)))
  · rintro (h | h | h | h | h)
    · exact .inl h
    · exact .inr (.inl h)
    · exact .inr (.inr (.inr (.inl h)))
    · exact .inr (.inr (.inl h))
    · exact .inr (.inr (.inr (.inr h)))
theorem Bx.swap_own (b : Bx) (w : World) (i : Nat) : b.swap.own w i ↔ b.own w i := by
  unfold Bx.own
  rw [Bx.swap_S]
  exact Iff.rfl
theorem OwnsK.rebase {w : World} {base base' : Nat} {v : Value} {l : List Ky} (h : OwnsK w base v l) (hb : ∀ i, v.ownBlock = some i → base' ≤ i) : OwnsK w base' v l :=
  ⟨h.1, h.2.imp id fun ⟨g, cap, cur, hv, hg, r⟩ => ⟨g, cap, cur, hv, hb g (by rw [hv]; rfl), r⟩⟩
theorem Fits.swap {w : World} {b : Bx} {gd : Ky → Option Fd} {g : Sx.G} (h : Fits w b gd g) : Fits w b.swap gd g := fun k => by
  rcases h k with h | ⟨fd, f, v, e1, e2, e3, e4, e5, e6, e7, e8, e9⟩
  · exact .inl h
  · exact .inr ⟨fd, f, v, e1, e2, e3, e4, e5, e6, e7, e8, fun i hi hS => e9 i hi ((b.swap_S i).1 hS)⟩
theorem Mem.swap {w : World} {b : Bx} {T : Int} {near far : List Ky} {g : Sx.G} {q : Option Ky} (h : Mem w b T near far g q) : Mem w b.swap T far near g q := by
  obtain ⟨h1, h2, ⟨vn, vf, n1, n2, n3, n4, n5, n6⟩, h4, h40, gd, h5, h6⟩ := h
  refine ⟨h1, h2, ⟨vf, vn, n2, n1, n4, n3, fun i hi hj => n5 i hj hi, fun k hq => ?_⟩, fun e => h4 e.symm, h40, gd, h5, h6.swap⟩
  obtain ⟨r1, r2, r3⟩ := n6 k hq
  exact ⟨r1, r3, r2⟩

theorem ne_int_key : 3 ≠ 101 := by decide
theorem ne_map_key : 105 ≠ 101 := by decide
theorem ne_int_keys : 3 ≠ 106 := by decide
theorem ne_map_keys : 105 ≠ 106 := by decide

theorem Fits.put {w w' : World} {b : Bx} {gd : Ky → Option Fd} {g : Sx.G} (h : Fits w b gd g) (hk : Keep (b.own w) w w') {to : Ky} {fd : Fd} {f : Sx.Fp} {v : Value} (e1 : fd.tot = f.m.tot) (e2 : fd.kind = f.kind) (e3 : fd.n = f.n) (e4 : fd.from_ = f.from_) (e5 : fd.first = f.first)
    (hm : Mach w fd.mb v f.m) (hn : ∀ i, mo fd.mb v i → ¬ b.S i) : Fits w' b (putF gd to fd) (Sx.put g to f) := fun k => by
  have keepM : ∀ {mb v m}, Mach w mb v m → (∀ i, mo mb v i → ¬ b.S i) → Mach w' mb v m := fun hm hn => hm.keep hk fun i hi ho => by
    rcases ho with ho | ho
    · exact hn i hi ho
    · exact hm.notKy i hi ho.2
  unfold putF Sx.put
  by_cases hh : k = to
  · rw [if_pos hh, if_pos hh]
    exact .inr ⟨fd, f, v, rfl, rfl, e1, e2, e3, e4, e5, keepM hm hn, hn⟩
  · rw [if_neg hh, if_neg hh]
    rcases h k with h | ⟨fd, f, v, e1, e2, e3, e4, e5, e6, e7, e8, e9⟩
    · exact .inl h
    · exact .inr ⟨fd, f, v, e1, e2, e3, e4, e5, e6, e7, keepM e8 e9, e9⟩

theorem Mem.put {w w' : World} {b : Bx} {T : Int} {near far : List Ky} {g : Sx.G} {k : Ky} (hM : Mem w b T near far g (some k)) {gd : Ky → Option Fd} (hgd : Known w b.mb gd) (hF : Fits w b gd g) {vn vf : Value}
    (n1 : w.rowIs b.bn 106 1 (fun _ => vn)) (n2 : w.rowIs b.bf 106 1 (fun _ => vf)) (n3 : OwnsK w b.base vn near) (n4 : OwnsK w b.base vf far) (n5 : ∀ i, vn.ownBlock = some i → vf.ownBlock ≠ some i)
    (hq : w.rowIs b.bq 101 5 (kcs k.at_ k.pend k.x k.y k.z)) (hqn : vn.ownBlock ≠ some b.bq) (hqf : vf.ownBlock ≠ some b.bq)
    {to : Ky} {fd : Fd} {f : Sx.Fp} {v v' : Value} (hk1 : Known w' b.mb (putF gd to fd)) (ho : OwnsK w' 0 v' (near ++ [to])) (hr : w'.rowIs b.bn 106 1 (fun _ => v'))
    (hl : v'.ownBlock = vn.ownBlock ∨ ∃ i, v'.ownBlock = some i ∧ w.heap.size ≤ i) (hK : Keep (fun i => i = b.mb ∨ i = b.bn ∨ vn.ownBlock = some i) w w')
    (e1 : fd.tot = f.m.tot) (e2 : fd.kind = f.kind) (e3 : fd.n = f.n) (e4 : fd.from_ = f.from_) (e5 : fd.first = f.first) (hm : Mach w fd.mb v f.m) (hn : ∀ i, mo fd.mb v i → ¬ b.S i) :
    Keep (b.own w) w w' ∧ Mem w' b T (near ++ [to]) far (Sx.put g to f) (some k) := by
  have hKo : Keep (b.own w) w w' := hK.mono fun i _ hi => by
    rcases hi with rfl | rfl | hi
    · exact .inl (.inr (.inr (.inr (.inr rfl))))
    · exact .inl (.inr (.inr (.inl rfl)))
    · exact .inr ⟨(n3.lt hi).1, n3.isKy hi⟩
  refine ⟨hKo, ?_⟩
  have hT := hM.tot
  have hB := hM.kb
  have hbl : b.base ≤ w.heap.size := hM.bl
  have ho := ho.rebase (base' := b.base) fun i hi => by
    rcases hl with h | ⟨i', h, hge⟩
    · exact (n3.lt (h ▸ hi)).1
    · rw [hi] at h
      cases h
      omega
  refine ⟨hK.row ?_ hT, hK.row ?_ hB, ⟨v', vf, hr, hK.row ?_ n2, ho, n4.keep hK fun i hi ho => ?_, fun i hi hj => ?_, fun k' hk' => ?_⟩, hM.ne, Nat.le_trans hbl hK.size, _, hk1, hF.put hKo e1 e2 e3 e4 e5 hm hn⟩
  · rintro (h | h | h)
    · exact row_ne_map hT hgd h
    · exact row_ne hT n1 ne_int_keys h
    · exact n3.ne hT ne_int_key h
  · rintro (h | h | h)
    · exact row_ne_map hB hgd h
    · exact row_ne hB n1 ne_map_keys h
    · exact n3.ne hB ne_map_key h
  · rintro (h | h | h)
    · exact row_ne_map n2 hgd h
    · exact hM.ne h.symm
    · exact n3.ne n2 ne_keys h
  · rcases ho with h | h | h
    · exact n4.neMap hgd i hi h
    · exact n4.ne n1 ne_keys (h ▸ hi)
    · exact n5 i h hi
  · rcases hl with h | ⟨i', h, hge⟩
    · exact n5 i (h ▸ hi) hj
    · rw [hi] at h
      cases h
      have := (n4.lt hj).2
      omega
  · cases hk'
    have hlt := hq.lt
    refine ⟨hK.row ?_ hq, ?_, hqf⟩
    · rintro (h | h | h)
      · exact row_ne_map hq hgd h
      · exact row_ne hq n1 (Ne.symm ne_keys) h
      · exact hqn h
    · rcases hl with h | ⟨i', h, hge⟩
      · rw [h]; exact hqn
      · rw [h]
        intro h2
        cases h2
        omega

/-- WHAT THE CLOSURE DOES -/
def SeeP (w : World) (b : Bx) (T : Int) (near far : List Ky) (g : Sx.G) (k : Ky) (a n : Int) (m : Mc.St) (e : Ending) (w' : World) : Prop :=
  e = .returned (.tuple #[]) ∧ Keep (b.own w) w w' ∧
    (((∃ old, g (Sx.km m) = some old ∧ old.m.tot ≤ m.tot) ∧ Mem w' b T near far g (some k)) ∨
     ((∀ old, g (Sx.km m) = some old → m.tot < old.m.tot) ∧ Mem w' b T (if m.tot = T then near ++ [Sx.km m] else near) (if m.tot = T then far else far ++ [Sx.km m]) (Sx.put g (Sx.km m) ⟨m, a, n, k, false⟩) (some k)))

theorem see_any (w : World) (b : Bx) (T : Int) (near far : List Ky) (g : Sx.G) (k : Ky) (a n : Int) (mb : Nat) (v : Value) (m : Mc.St)
    (hM : Mem w b T near far g (some k)) (hm : Mach w mb v m) (hn : ∀ i, mo mb v i → ¬ b.S i) (hl : m.tags.length ≤ 3) (hs : (Sx.km m).small) (ht : m.tot = if a = 1 then T + 1 else T) (ht0 : 0 ≤ T) (ht1 : T ≤ 1000000) (hnl : near.length ≤ 1000000) (hfl : far.length ≤ 1000000) :
    Calls Try.prog 65 (seeArgs a n mb b) w (SeeP w b T near far g k a n m) := by
  have hM0 := hM
  obtain ⟨h1, h2, ⟨vn, vf, n1, n2, n3, n4, n5, n6⟩, h4, h40, gd, h5, h6⟩ := hM
  obtain ⟨hq, hqn, hqf⟩ := n6 k rfl
  by_cases ha : a = 1
  · subst ha
    rw [if_pos rfl] at ht
    have hne : m.tot ≠ T := by omega
    have fin : ∀ w' v', Known w' b.mb (putF gd (Sx.km m) ⟨mb, T + 1, 1, n, k, false⟩) → OwnsK w' 0 v' (far ++ [Sx.km m]) → w'.rowIs b.bf 106 1 (fun _ => v') →
        (v'.ownBlock = vf.ownBlock ∨ ∃ i, v'.ownBlock = some i ∧ w.heap.size ≤ i) → Keep (fun i => i = b.mb ∨ i = b.bf ∨ vf.ownBlock = some i) w w' →
        Keep (b.own w) w w' ∧ Mem w' b T near (far ++ [Sx.km m]) (Sx.put g (Sx.km m) ⟨m, 1, n, k, false⟩) (some k) := fun w' v' k1 k2 k3 k4 k5 => by
      have := Mem.put (b := b.swap) hM0.swap h5 h6.swap n2 n1 n4 n3 (fun i hi hj => n5 i hj hi) hq hqf hqn (to := Sx.km m) (fd := ⟨mb, T + 1, 1, n, k, false⟩) (f := ⟨m, 1, n, k, false⟩) (v := v) (v' := v') k1 k2 k3 k4 k5 ht.symm rfl rfl rfl rfl hm (fun i hi hS => hn i hi ((b.swap_S i).1 hS))
      exact ⟨this.1.mono fun i _ hi => (b.swap_own w i).1 hi, this.2.swap⟩
    rcases h6 (Sx.km m) with ⟨e1, e2⟩ | ⟨fd, f, v2, e1, e2, e3, _⟩
    · refine (see_new1n w b T near far g k n mb v m gd (Sx.km m) rfl hM0 hm hl hs h5 e1 ht0 ht1 hfl vf vn n2 (n4.base (Nat.zero_le _)) hq hqf).mono ?_
      rintro e w' ⟨rfl, v', k1, k2, k3, k4, k5⟩
      obtain ⟨q1, q2⟩ := fin w' v' k1 k2 k3 k4 k5
      refine ⟨rfl, q1, .inr ⟨fun old ho => (by rw [e2] at ho; cases ho), ?_⟩⟩
      rw [if_neg hne, if_neg hne]
      exact q2
    · by_cases hle : fd.tot ≤ T + 1
      · refine (see_old1 w b T near far g k n mb v m gd fd (Sx.km m) rfl hM0 hm hl hs h5 e1 hle ht0 ht1).mono ?_
        rintro e w' ⟨rfl, hk⟩
        exact ⟨rfl, hk.keep, .inl ⟨⟨f, e2, by omega⟩, hM0.kw hk⟩⟩
      · refine (see_new1s w b T near far g k n mb v m gd (Sx.km m) rfl hM0 hm hl hs h5 fd e1 (by omega) ht0 ht1 hfl vf vn n2 (n4.base (Nat.zero_le _)) hq hqf).mono ?_
        rintro e w' ⟨rfl, v', k1, k2, k3, k4, k5⟩
        obtain ⟨q1, q2⟩ := fin w' v' k1 k2 k3 k4 k5
        refine ⟨rfl, q1, .inr ⟨fun old ho => (by rw [e2] at ho; cases ho; omega), ?_⟩⟩
        rw [if_neg hne, if_neg hne]
        exact q2
  · rw [if_neg ha] at ht
    have fin : ∀ w' v', Known w' b.mb (putF gd (Sx.km m) ⟨mb, T, a, n, k, false⟩) → OwnsK w' 0 v' (near ++ [Sx.km m]) → w'.rowIs b.bn 106 1 (fun _ => v') →
        (v'.ownBlock = vn.ownBlock ∨ ∃ i, v'.ownBlock = some i ∧ w.heap.size ≤ i) → Keep (fun i => i = b.mb ∨ i = b.bn ∨ vn.ownBlock = some i) w w' →
        Keep (b.own w) w w' ∧ Mem w' b T (near ++ [Sx.km m]) far (Sx.put g (Sx.km m) ⟨m, a, n, k, false⟩) (some k) := fun w' v' k1 k2 k3 k4 k5 =>
      Mem.put hM0 h5 h6 n1 n2 n3 n4 n5 hq hqn hqf (to := Sx.km m) (fd := ⟨mb, T, a, n, k, false⟩) (f := ⟨m, a, n, k, false⟩) (v := v) (v' := v') k1 k2 k3 k4 k5 ht.symm rfl rfl rfl rfl hm hn
    rcases h6 (Sx.km m) with ⟨e1, e2⟩ | ⟨fd, f, v2, e1, e2, e3, _⟩
    · refine (see_new0n w b T near far g k n mb v m gd (Sx.km m) rfl hM0 hm hl hs h5 e1 a ha ht0 ht1 hnl vn vf n1 (n3.base (Nat.zero_le _)) hq hqn).mono ?_
      rintro e w' ⟨rfl, v', k1, k2, k3, k4, k5⟩
      obtain ⟨q1, q2⟩ := fin w' v' k1 k2 k3 k4 k5
      refine ⟨rfl, q1, .inr ⟨fun old ho => (by rw [e2] at ho; cases ho), ?_⟩⟩
      rw [if_pos ht, if_pos ht]
      exact q2
    · by_cases hle : fd.tot ≤ T
      · refine (see_old0 w b T near far g k n mb v m gd fd (Sx.km m) rfl hM0 hm hl hs h5 e1 hle a ha ht0 ht1).mono ?_
        rintro e w' ⟨rfl, hk⟩
        exact ⟨rfl, hk.keep, .inl ⟨⟨f, e2, by omega⟩, hM0.kw hk⟩⟩
      · refine (see_new0s w b T near far g k n mb v m gd (Sx.km m) rfl hM0 hm hl hs h5 fd e1 (by omega) a ha ht0 ht1 hnl vn vf n1 (n3.base (Nat.zero_le _)) hq hqn).mono ?_
        rintro e w' ⟨rfl, v', k1, k2, k3, k4, k5⟩
        obtain ⟨q1, q2⟩ := fin w' v' k1 k2 k3 k4 k5
        refine ⟨rfl, q1, .inr ⟨fun old ho => (by rw [e2] at ho; cases ho; omega), ?_⟩⟩
        rw [if_pos ht, if_pos ht]
        exact q2

end Go.Proofs.Ytgadkelldbibgaa

/- Contract of machine.Copy. -/
namespace Go.Proofs.Ytgadkelldbibgaa
open Go.ChangeShapes Go.WideShapes Go.ChangeAt Go.RowKit
set_option linter.unusedVariables false

theorem copy_nil (w : World) :
    Calls Try.prog 105 #[.pointer none] w fun e w' => e = .returned (.pointer none) ∧ w = w' := by
  go_enter Try.func105, Try.ntmps105
  go_wp2_with fail
  go_ret
  exact ⟨rfl, rfl⟩

/-- another machine -/
def CopyP (w : World) (m : Mc.St) (e : Ending) (w' : World) : Prop :=
  ∃ b v, e = .returned (.pointer (some ⟨b, 0, none⟩)) ∧ Mach w' b v m ∧ (∀ k, mo b v k → w.heap.size ≤ k) ∧ KW w w'
set_option maxHeartbeats 1000000 in
theorem copy_any (m : Mc.St) (b : Nat) (v : Value) (w : World) (hM : Mach w b v m) (hl : m.tags.length ≤ 1048576) :
    Calls Try.prog 105 #[.pointer (some ⟨b, 0, none⟩)] w (CopyP w m) := by
  obtain ⟨A, c, hv, hh⟩ := hM.2.holds
  have c0 := hM.1.cell (i := 0) (by omega)
  have c1 := hM.1.cell (i := 1) (by omega)
  have c2 := hM.1.cell (i := 2) (by omega)
  have c3 := hM.1.cell (i := 3) (by omega)
  have c4 := hM.1.cell (i := 4) (by omega)
  obtain ⟨l, a, p, t, tags⟩ := m
  simp only [mf] at c0 c1 c2 c3 c4 hv hh hl
  rw [hv] at c4
  have hlt := hM.size
  have HC := hid (fun W (hk : KW w W) => clone_any A tags.length c (ints tags) W hl (hh.kw hk))
  have HL := hid (ints_len tags)
  clear hM hh hv
  generalize hN : tags.length = N at *
  clear hN
  go_enter Try.func105, Try.ntmps105
  go_wp2_with fail
  refine (HC.out _ ((KW.refl w).alloc _)).mono ?_
  rintro e w1 ⟨v2, rfl, ho, hk⟩
  have HR : Hid (w1.rowIs w.heap.size 88 5 (mf ⟨l, a, p, t, tags⟩ (.slice A N c))) :=
    KW.row hk (by simp) (World.rowIs_alloc w #[.int .i64 a, .int .i64 p, .int .i64 l, .int .i64 t, .slice A N c] 88 _ fun i hi => by
      rcases (show i = 0 ∨ i = 1 ∨ i = 2 ∨ i = 3 ∨ i = 4 by simp at hi; omega) with rfl | rfl | rfl | rfl | rfl <;> rfl)
  have c5 := HR.out.cell (i := 4) (by omega)
  simp only [mf] at c5
  have f5 := HR.out.frozen 4
  have HO : Hid (∀ k, v2.ownBlock = some k → w.heap.size < k) := fun k h => by
    have := (ho.lt h).1
    simp at this; omega
  have HT : Hid (∀ x, Tg (w1.setCell ⟨w.heap.size, 4, none⟩ x) w.heap.size v2 tags) := fun x => by
    have h1 : Owns (w1.setCell ⟨w.heap.size, 4, none⟩ x) (w.alloc (.cells #[.int .i64 a, .int .i64 p, .int .i64 l, .int .i64 t, .slice A N c] 88)).heap.size 3 v2 (ints tags) :=
      ho.of_blocks fun k h => heap_setCell_other w1 _ k x (by have := HO.out k h; show k ≠ w.heap.size; omega)
    exact h1.tg fun k h => by have := HO.out k h; omega
  have HK : Hid (KW w w1) := ((KW.refl w).alloc _).t hk
  have H1 : v2.oneCell' = true := by obtain ⟨A', c', rfl, _⟩ := ho.row; rfl
  obtain ⟨A2, k2, hv2, _⟩ := ho.row
  subst hv2
  clear ho hk H1
  go_wp2_with fail
  go_ret
  refine ⟨w.heap.size, _, rfl, ⟨(HR.out.set 4 _).congr fun j hj => ?_, HT.out _⟩, fun k hk => ?_, Below.setCell (p := ⟨w.heap.size, 4, none⟩) HK.out (Nat.le_refl _) _⟩
  · rcases (show j = 0 ∨ j = 1 ∨ j = 2 ∨ j = 3 ∨ j = 4 by omega) with rfl | rfl | rfl | rfl | rfl <;> rfl
  · rcases hk with rfl | hk
    · exact Nat.le_refl _
    · exact Nat.le_of_lt (HO.out k (tbk_own hk))
end Go.Proofs.Ytgadkelldbibgaa

/- best.next: all that can come next, handed to the closure. -/
namespace Go.Proofs.Ytgadkelldbibgaa
open Go.ChangeShapes Go.WideShapes Go.ChangeAt Go.RowKit
set_option linter.unusedVariables false

/-- a search under way -/
def Sr (w : World) (b : Bx) (l s : Nat) (T : Int) (k : Ky) (f : Sx.Fp) (A : List Mc.Act) (K : Nat) : Prop :=
  ∃ near far g, Mem w b T near far g (some k) ∧ Sx.Nx l s T near far g k f A K

def seeF (b : Bx) : Value := .func (.func 65) #[] #[.pointer (some ⟨b.bt, 0, none⟩), .pointer (some ⟨b.bk, 0, none⟩), .pointer (some ⟨b.bq, 0, none⟩), .pointer (some ⟨b.bn, 0, none⟩), .pointer (some ⟨b.bf, 0, none⟩)]

theorem Mem.notS {w : World} {b : Bx} {T : Int} {near far : List Ky} {g : Sx.G} {q : Option Ky} (h : Mem w b T near far g q) {i n : Nat} {t : TypeId} {f : Nat → Value} (hr : w.rowIs i t n f) (h1 : t ≠ 3) (h2 : t ≠ 105) (h3 : t ≠ 106) : ¬ b.S i := by
  obtain ⟨m1, m2, ⟨vn, vf, n1, n2, _⟩, _, _, gd, m5, _⟩ := h
  rintro (e | e | e | e | e)
  · exact row_ne hr m1 h1 e
  · exact row_ne hr m2 h2 e
  · exact row_ne hr n1 h3 e
  · exact row_ne hr n2 h3 e
  · exact row_ne_map hr m5 e
theorem row_notKy {w : World} {i n : Nat} {t : TypeId} {f : Nat → Value} (hr : w.rowIs i t n f) (h : t ≠ 101) : ¬ IsKy w i := by
  rintro ⟨c, fr, hb⟩
  obtain ⟨c', hb', _⟩ := hr
  rw [hb] at hb'
  injection hb' with hb'
  injection hb' with _ ht
  exact h ht.symm
theorem Mem.notOwn {w : World} {b : Bx} {T : Int} {near far : List Ky} {g : Sx.G} {q : Option Ky} (h : Mem w b T near far g q) {i n : Nat} {t : TypeId} {f : Nat → Value} (hr : w.rowIs i t n f) (h1 : t ≠ 3) (h2 : t ≠ 105) (h3 : t ≠ 106) (h4 : t ≠ 101) : ¬ b.own w i := by
  rintro (e | e)
  · exact h.notS hr h1 h2 h3 e
  · exact row_notKy hr h4 e.2
theorem Mem.below {w : World} {b : Bx} {T : Int} {near far : List Ky} {g : Sx.G} {q : Option Ky} (h : Mem w b T near far g q) {i : Nat} (hi : b.S i) : i < w.heap.size := by
  obtain ⟨m1, m2, ⟨vn, vf, n1, n2, _⟩, _, _, gd, m5, _⟩ := h
  rcases hi with rfl | rfl | rfl | rfl | rfl
  · exact m1.lt
  · exact m2.lt
  · exact n1.lt
  · exact n2.lt
  · exact m5.lt
theorem Mach.notOwn {w : World} {b : Bx} {mb : Nat} {v : Value} {m : Mc.St} (h : Mach w mb v m) (hn : ∀ i, mo mb v i → ¬ b.S i) : ∀ i, mo mb v i → ¬ b.own w i := fun i hi ho => by
  rcases ho with ho | ho
  · exact hn i hi ho
  · exact h.notKy i hi ho.2
theorem Sr.kw {w w' : World} {b : Bx} {l s : Nat} {T : Int} {k : Ky} {f : Sx.Fp} {A : List Mc.Act} {K : Nat} (h : Sr w b l s T k f A K) (hk : KW w w') : Sr w' b l s T k f A K := by
  obtain ⟨near, far, g, h1, h2⟩ := h
  exact ⟨near, far, g, h1.kw hk, h2⟩
theorem Sr.notOwn {w : World} {b : Bx} {l s : Nat} {T : Int} {k : Ky} {f : Sx.Fp} {A : List Mc.Act} {K : Nat} (h : Sr w b l s T k f A K) {i n : Nat} {t : TypeId} {f' : Nat → Value} (hr : w.rowIs i t n f') (h1 : t ≠ 3) (h2 : t ≠ 105) (h3 : t ≠ 106) (h4 : t ≠ 101) : ¬ b.own w i := by
  obtain ⟨near, far, g, hm, _⟩ := h
  exact hm.notOwn hr h1 h2 h3 h4
theorem Bx.own_kw {b : Bx} {w w' : World} (hk : KW w w') (hb : b.base ≤ w.heap.size) : ∀ i, i < w.heap.size → b.own w' i → b.own w i := fun i hi h => by
  rcases h with h | ⟨h1, c, fr, h2⟩
  · exact .inl h
  · exact .inr ⟨h1, c, fr, (Below.block hk i hi).symm.trans h2⟩
theorem Bx.own_keep {b : Bx} {w w' : World} (hk : Keep (b.own w) w w') : ∀ i, i < w.heap.size → b.own w' i → b.own w i := fun i hi h => by
  rcases Classical.em (b.own w i) with ho | hn
  · exact ho
  · rcases h with h | ⟨h1, c, fr, h2⟩
    · exact .inl h
    · exact .inr ⟨h1, c, fr, (hk.block i hi hn).symm.trans h2⟩
theorem Keep.ownT {b : Bx} {w w1 w2 : World} (h : Keep (b.own w) w w1) (k : Keep (b.own w1) w1 w2) : Keep (b.own w) w w2 := h.trans k (Bx.own_keep h)
theorem Sr.base {w : World} {b : Bx} {l s : Nat} {T : Int} {k : Ky} {f : Sx.Fp} {A : List Mc.Act} {K : Nat} (h : Sr w b l s T k f A K) : b.base ≤ w.heap.size := by
  obtain ⟨near, far, g, hm, _⟩ := h
  exact hm.bl

/-- keys are small -/
theorem small_wf {n : Int} (h0 : -2 ≤ n) (h1 : n ≤ 65536) : (Lit.int .i64 n).wf = true := by
  have e1 : IntKind.i64.min = -9223372036854775808 := by decide
  have e2 : IntKind.i64.max = 9223372036854775807 := by decide
  simp only [Lit.wf, e1, e2, Bool.and_eq_true, decide_eq_true_eq]
  omega
theorem km_small {l : Nat} {m : Mc.St} (hI : Mc.Inv m) (hl : m.l = l) (h : l ≤ 65535) : (Sx.km m).small := by
  obtain ⟨h1, h2, h3, h4, h5⟩ := Sx.km_range hI hl
  exact ⟨small_wf h1.1 (by omega), small_wf h2.1 (by omega), small_wf h3.1 (by omega), small_wf h4.1 (by omega), small_wf h5.1 (by omega)⟩

/-- the closure, in the search -/
theorem see_sr {w : World} {b : Bx} {l s : Nat} {T : Int} {k : Ky} {f : Sx.Fp} {A : List Mc.Act} {K : Nat} (h : Sr w b l s T k f A K) (hl : l ≤ 5) (hs3 : s ≤ 3) (hK : K ≤ 1000000) (ht1 : T ≤ 1000000) {a n : Int} (hu : Sx.unit s a n) {m' : Mc.St} (hs : Mc.step f.m a n = (m', 0)) {mb : Nat} {v : Value} (hm : Mach w mb v m') (hn : ∀ i, mo mb v i → ¬ b.S i) :
    Calls Try.prog 65 (seeArgs a n mb b) w fun e w' => e = .returned (.tuple #[]) ∧ Sr w' b l s T k f (A ++ [(a, n)]) K ∧ Keep (b.own w) w w' := by
  obtain ⟨near, far, g, hM, hN⟩ := h
  have hg := hN.si.good k f hN.at_
  have e1 : (Mc.step f.m a n).1 = m' := by rw [hs]
  have e2 : (Mc.step f.m a n).2 = 0 := by rw [hs]
  have hI : Mc.Inv m' := by rw [← e1]; exact hg.1.step a n
  have hml : m'.l = l := by rw [← e1, Mc.step_l]; exact hg.2.1
  have hmt : m'.tags.length = s := by rw [← e1, Mc.step_len]; exact hg.2.2.1
  have ht := Sx.unit_tot hu e2
  rw [e1, hN.tot] at ht
  have hM2 := hN.mes
  unfold Sx.M at hM2
  refine (see_any w b T near far g k a n mb v m' hM hm hn (by omega) (km_small hI hml (by omega)) (by rw [ht]; split <;> omega) hN.si.t0 ht1 (by omega) (by omega)).mono ?_
  rintro e w' ⟨rfl, hk, hx⟩
  refine ⟨rfl, ?_, hk⟩
  rcases hx with ⟨hx, hm2⟩ | ⟨hx, hm2⟩
  · exact ⟨near, far, g, hm2, hN.old fun _ => by rw [e1]; exact hx⟩
  · exact ⟨_, _, _, hm2, hN.new hu hs hx⟩

theorem Sr.no {w : World} {b : Bx} {l s : Nat} {T : Int} {k : Ky} {f : Sx.Fp} {A : List Mc.Act} {K : Nat} (h : Sr w b l s T k f A K) {a n : Int} (e : (Mc.step f.m a n).2 ≠ 0) : Sr w b l s T k f (A ++ [(a, n)]) K := by
  obtain ⟨near, far, g, hM, hN⟩ := h
  exact ⟨near, far, g, hM, hN.old fun h => absurd h e⟩

set_option maxRecDepth 100000 in
set_option maxHeartbeats 1000000 in
theorem try_any (w : World) (b : Bx) (l s : Nat) (T : Int) (k : Ky) (f : Sx.Fp) (A : List Mc.Act) (K : Nat) (hS : Sr w b l s T k f A K) (hl : l ≤ 5) (hs3 : s ≤ 3) (hK : K ≤ 1000000) (ht1 : T ≤ 1000000) (kind n : Int) (hu : Sx.unit s kind n)
    (mb : Nat) (v : Value) (hm : Mach w mb v f.m) (hn : ∀ i, mo mb v i → ¬ b.S i) (bm bs : Nat) (c1 : w.cell? ⟨bm, 0, none⟩ = some (.pointer (some ⟨mb, 0, none⟩))) (l1 : bm < w.heap.size) (c2 : w.cell? ⟨bs, 0, none⟩ = some (seeF b)) (l2 : bs < w.heap.size) :
    Calls Try.prog 104 #[.int .i64 kind, .int .i64 n, .pointer (some ⟨bm, 0, none⟩), .pointer (some ⟨bs, 0, none⟩)] w fun e w' => e = .returned (.tuple #[]) ∧ Sr w' b l s T k f (A ++ [(kind, n)]) K ∧ Keep (b.own w) w w' := by
  have HG : Hid (Mc.Inv f.m ∧ f.m.l = l ∧ f.m.tags.length = s ∧ f.m.tot = T) := by
    obtain ⟨near, far, g, hM, hN⟩ := hS
    obtain ⟨g1, g2, g3, _⟩ := hN.si.good k f hN.at_
    exact ⟨g1, g2, g3, hN.tot⟩
  have HSl : Hid (∀ i, b.S i → i < w.heap.size) := by
    obtain ⟨near, far, g, hM, hN⟩ := hS
    exact fun i hi => hM.below hi
  have HC := hid (copy_any f.m mb v w hm (by have := HG.out; omega))
  have HDo := hid (fun b' v' W (h : Mach W b' v' f.m) => do_any f.m kind n b' v' W h HG.out.1 (by have := HG.out; omega))
  unfold CopyP at HC
  unfold Did at HDo
  have HSee := hid (fun W (h : Sr W b l s T k f A K) (m' : Mc.St) (hs : Mc.step f.m kind n = (m', 0)) (mb' : Nat) (v' : Value) (hm : Mach W mb' v' m') (hn : ∀ i, mo mb' v' i → ¬ b.S i) => see_sr h hl hs3 hK ht1 hu hs hm hn)
  have HS := hid hS
  clear hS hm hn hK ht1 hu
  unfold seeF at c2
  unfold seeArgs at HSee
  obtain ⟨m', er, hst⟩ : ∃ m' er, Mc.step f.m kind n = (m', er) := ⟨_, _, rfl⟩
  have HST := hid hst
  clear hst
  by_cases her : er = 0
  · subst her
    rw [HST.out] at HDo
    go_enter Try.func104, Try.ntmps104
    go_wp2_with (first
      | (go_at_call 105; refine HC.out.mono ?_; rintro e w1 ⟨nb, nv, rfl, hm1, hf1, hk1⟩; have HM1 := hid hm1; have HF1 := hid hf1; have HK1 := hid hk1; clear hm1 hf1 hk1)
      | (go_at_call 24; refine (HDo.out _ _ _ (HM1.out.kw ((KW.refl w1).alloc _))).mono ?_; rintro e w2 ⟨rfl, hm2, hk2⟩; have HM2 := hid hm2; have HK2 := hid ((HK1.out.alloc _).kept hk2 fun i hi => HF1.out i hi); have d1 := KW.cell HK2.out l2 c2; have l3 : bs < w2.heap.size := Nat.lt_of_lt_of_le l2 HK2.out.size; have hnb : ¬ mo nb nv w1.heap.size := (fun h => absurd (HM1.out.lt h) (Nat.lt_irrefl _)); have hb2 := (hk2.block w1.heap.size (by simp) hnb).trans (heap_alloc_new w1 _); have HB2 := hid hb2; clear hm2 hk2 hnb hb2)
      | (go_at_call 65; refine (HSee.out _ (HS.out.kw HK2.out) m' HST.out nb nv HM2.out (fun i hi hS => absurd (HSl.out i hS) (Nat.not_lt.2 (HF1.out i hi)))).mono ?_; rintro e w3 ⟨rfl, hs3', hk3⟩; have HS3 := hid hs3'; have HK3 := hid (HK2.out.keep (own := b.own w) |>.trans hk3 (Bx.own_kw HK2.out HS.out.base)); clear hs3' hk3)
      | (refine wpList_load_row rfl 27 _ rfl w1.heap.size rfl 27 _ (0, 0) _ HB2.out Try.underlying27 rfl (by kernel_rfl) ?_))
    refine bodyPost_end (results_none rfl _ _ _) rfl ?_
    exact ⟨rfl, HS3.out, HK3.out⟩
  · have d0 : (er == 0) = false := beq_eq_false_iff_ne.2 her
    have HNo := hid (fun W (h : Sr W b l s T k f A K) => Sr.no h (a := kind) (n := n) (by rw [HST.out]; exact her))
    rw [HST.out] at HDo
    clear her
    go_enter Try.func104, Try.ntmps104
    go_wp2_with (first
      | (go_at_call 105; refine HC.out.mono ?_; rintro e w1 ⟨nb, nv, rfl, hm1, hf1, hk1⟩; have HM1 := hid hm1; have HF1 := hid hf1; have HK1 := hid hk1; clear hm1 hf1 hk1)
      | (go_at_call 24; refine (HDo.out _ _ _ (HM1.out.kw ((KW.refl w1).alloc _))).mono ?_; rintro e w2 ⟨rfl, hm2, hk2⟩; have HK2 := hid ((HK1.out.alloc _).kept hk2 fun i hi => HF1.out i hi); clear hm2 hk2))
    refine bodyPost_end (results_none rfl _ _ _) rfl ?_
    exact ⟨rfl, HNo.out _ (HS.out.kw HK2.out), HK2.out.keep⟩

end Go.Proofs.Ytgadkelldbibgaa

/- best.next. -/
namespace Go.Proofs.Ytgadkelldbibgaa
open Go.ChangeShapes Go.WideShapes Go.ChangeAt Go.RowKit
set_option linter.unusedVariables false

/-- behind some of the actions -/
def NxW (w W : World) (b : Bx) (l s : Nat) (T : Int) (k : Ky) (f : Sx.Fp) (A : List Mc.Act) (K mb : Nat) (v : Value) : Prop :=
  Sr W b l s T k f A K ∧ Keep (b.own w) w W ∧ W.rowIs w.heap.size 41 1 (fun _ => .pointer (some ⟨mb, 0, none⟩)) ∧ W.rowIs (w.heap.size + 1) 110 1 (fun _ => seeF b) ∧ Mach W mb v f.m

theorem NxW.try_ {w W : World} {b : Bx} {l s : Nat} {T : Int} {k : Ky} {f : Sx.Fp} {A : List Mc.Act} {K mb : Nat} {v : Value} (h : NxW w W b l s T k f A K mb v) (hl : l ≤ 5) (hs3 : s ≤ 3) (hK : K ≤ 1000000) (ht1 : T ≤ 1000000) (hn : ∀ i, mo mb v i → ¬ b.S i) {kind n : Int} (hu : Sx.unit s kind n) :
    Calls Try.prog 104 #[.int .i64 kind, .int .i64 n, .pointer (some ⟨w.heap.size, 0, none⟩), .pointer (some ⟨w.heap.size + 1, 0, none⟩)] W fun e w' => e = .returned (.tuple #[]) ∧ NxW w w' b l s T k f (A ++ [(kind, n)]) K mb v := by
  obtain ⟨h1, h2, h3, h4, h5⟩ := h
  refine (try_any W b l s T k f A K h1 hl hs3 hK ht1 kind n hu mb v h5 hn _ _ (h3.cell (i := 0) (by omega)) h3.lt (h4.cell (i := 0) (by omega)) h4.lt).mono ?_
  rintro e w' ⟨rfl, g1, g2⟩
  exact ⟨rfl, g1, h2.ownT g2, g2.row (h1.notOwn h3 (by decide) (by decide) (by decide) (by decide)) h3, g2.row (h1.notOwn h4 (by decide) (by decide) (by decide) (by decide)) h4, h5.keep g2 (h5.notOwn hn)⟩

theorem NxW.start {w : World} {b : Bx} {l s : Nat} {T : Int} {k : Ky} {f : Sx.Fp} {A : List Mc.Act} {K mb : Nat} {v : Value} (h : Sr w b l s T k f A K) (hm : Mach w mb v f.m) :
    NxW w ((w.alloc (.cells #[.pointer (some ⟨mb, 0, none⟩)] 41)).alloc (.cells #[seeF b] 110)) b l s T k f A K mb v := by
  have hk : KW w ((w.alloc (.cells #[.pointer (some ⟨mb, 0, none⟩)] 41)).alloc (.cells #[seeF b] 110)) := ((KW.refl w).alloc _).alloc _
  refine ⟨h.kw hk, hk.keep, ?_, ?_, hm.kw hk⟩
  · exact KW.row ((KW.refl _).alloc _) (by simp) (World.rowIs_alloc w _ _ (fun _ => .pointer (some ⟨mb, 0, none⟩)) fun i hi => by match i, hi with | 0, _ => rfl)
  · have := World.rowIs_alloc (w.alloc (.cells #[.pointer (some ⟨mb, 0, none⟩)] 41)) #[seeF b] 110 (fun _ => seeF b) fun i hi => by match i, hi with | 0, _ => rfl
    rw [show (w.alloc (.cells #[.pointer (some ⟨mb, 0, none⟩)] 41)).heap.size = w.heap.size + 1 by simp] at this
    exact this
theorem NxW.drew {w W : World} {b : Bx} {l s : Nat} {T : Int} {k : Ky} {f : Sx.Fp} {A : List Mc.Act} {K mb : Nat} {v : Value} (h : NxW w W b l s T k f A K mb v) : NxW w W.drew b l s T k f A K mb v := by
  obtain ⟨h1, h2, h3, h4, h5⟩ := h
  have hk : KW W W.drew := (KW.refl W).drew
  exact ⟨h1.kw hk, h2.kwt hk, KW.row hk h3.lt h3, KW.row hk h4.lt h4, h5.kw hk⟩

set_option maxRecDepth 100000 in
set_option maxHeartbeats 1000000 in
theorem next_any (w : World) (b : Bx) (l s : Nat) (T : Int) (k : Ky) (f : Sx.Fp) (K : Nat) (hS : Sr w b l s T k f [] K) (hl : l ≤ 5) (hs3 : s ≤ 3) (hK : K ≤ 1000000) (ht1 : T ≤ 1000000)
    (mb : Nat) (v : Value) (hm : Mach w mb v f.m) (hn : ∀ i, mo mb v i → ¬ b.S i) :
    Calls Try.prog 64 #[.pointer (some ⟨mb, 0, none⟩), .int .i64 l, .int .i64 s, seeF b] w fun e w' => e = .returned (.tuple #[]) ∧ Sr w' b l s T k f (Sx.allActs s) K ∧ Keep (b.own w) w w' := by
  have HT := hid (fun W A kind n (h : NxW w W b l s T k f A K mb v) (hu : Sx.unit s kind n) => h.try_ hl hs3 hK ht1 hn hu)
  have H0 := hid (NxW.start hS hm)
  have HL := hid hs3
  clear hS hm hn hK ht1 hs3
  unfold seeF at *
  go_enter Try.func64, Try.ntmps64
  go_wp2_with fail
  go_loopw [12] (fun i wr => ∃ q : Nat, q ≤ s ∧ i = .int .i64 q ∧ Hid (NxW w wr b l s T k f (Sx.upActs q) K mb v)) (fun i _ => s - (intOf i).toNat)
  case atStart => exact ⟨0, by omega, rfl, H0⟩
  case round =>
    obtain ⟨q, hq, rfl, HN⟩ := hrel
    clear H0
    by_cases hlt : q < s
    · have L1 : (q : Int) < (s : Int) := by omega
      have hs3 := HL.out
      have HX := hid (Sx.upActs_succ q)
      go_wp2_with fail
      refine (HT.out _ _ 2 (q : Int) HN.out (.inr (.inl ⟨by omega, by omega, by omega, L1⟩))).mono ?_
      rintro e w1 ⟨rfl, h1⟩
      have HN1 := hid h1
      clear h1
      go_wp2_with fail
      refine (HT.out _ _ 3 (q : Int) HN1.out (.inr (.inl ⟨by omega, by omega, by omega, L1⟩))).mono ?_
      rintro e w2 ⟨rfl, h2⟩
      have HN2 := hid h2
      clear h2
      go_wp2_with fail
      refine (HT.out _ _ 4 (q : Int) HN2.out (.inr (.inl ⟨by omega, by omega, by omega, L1⟩))).mono ?_
      rintro e w3 ⟨rfl, h3⟩
      have HN3 := hid h3
      rw [← HX.out] at HN3
      clear h3
      go_wp2_with fail
      go_roundw
      case rel => exact ⟨q + 1, by omega, by go_num, HN3⟩
      case measure => simp [intOf]; omega
    · obtain rfl : q = s := by omega
      go_wp2_with fail
      refine (HT.out _ _ 5 0 HN.out (.inr (.inr ⟨by omega, by omega, rfl⟩))).mono ?_
      rintro e w1 ⟨rfl, h1⟩
      have HN1 := hid h1
      clear h1
      go_wp2_with fail
      refine (HT.out _ _ 6 0 HN1.out (.inr (.inr ⟨by omega, by omega, rfl⟩))).mono ?_
      rintro e w2 ⟨rfl, h2⟩
      have HN2 := hid h2
      clear h2
      go_wp2_with fail
      refine (HT.out _ _ 7 0 HN2.out (.inr (.inr ⟨by omega, by omega, rfl⟩))).mono ?_
      rintro e w3 ⟨rfl, h3⟩
      have HN3 := hid h3
      clear h3
      go_wp2_with fail
      refine (HT.out _ _ 1 1 HN3.out (.inl ⟨rfl, rfl⟩)).mono ?_
      rintro e w4 ⟨rfl, h4⟩
      have HN4 := hid h4
      clear h4
      go_wp2_with fail
      refine bodyPost_end (results_none rfl _ _ _) rfl ?_
      exact ⟨rfl, HN4.out.1, HN4.out.2.1⟩

end Go.Proofs.Ytgadkelldbibgaa
