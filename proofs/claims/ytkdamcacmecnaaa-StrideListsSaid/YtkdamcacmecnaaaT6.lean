/- Contract of stride.run: a run of actions, one after the other. -/
import Derived.Test.YtkdamcacmecnaaaT5
import Derived.Test.YtkdamcacmecnaaaActs
namespace Go.Proofs.Ytkdamcacmecnaaa
open Go.ChangeShapes Go.WideShapes Go.ChangeAt Go.RowKit
set_option linter.unusedVariables false

/-- what a run leaves -/
def RunP (b : Nat) (v : Value) (m' : Mc.St) (acts : List Mc.Act) (w : World) (e : Ending) (w' : World) : Prop :=
  ∃ vo, e = .returned vo ∧ OwnsA w' w.heap.size vo acts ∧ Mach w' b v m' ∧ Keep (mo b v) w w'
set_option maxRecDepth 100000 in
set_option maxHeartbeats 2000000 in
theorem srun_any (k : Int) (ended : Bool) (b : Nat) (v : Value) (m m' : Mc.St) (acts : List Mc.Act) (w : World) (hM : Mach w b v m) (hR : Mc.Runs (Sd.nm k ended) m acts m') (hI : Mc.Inv m) (hlen : acts.length ≤ 1099511627776) (hT : m.tot + 65535 * (acts.length : Int) ≤ 4611686018427387904) :
    Calls Try.prog 64 #[.pointer (some ⟨b, 0, none⟩), .int .i64 k, .bool ended] w (RunP b v m' acts w) := by
  have HM := hid hM
  have HR := hid hR
  have HI := hid hI
  have HT := hid hT
  have HMlt := hid (fun i => hM.lt (k := i))
  clear hM hR hI hT
  unfold RunP
  go_enter Try.func64, Try.ntmps64
  go_wp2_with fail
  go_loopw [7] (fun vo wr => ∃ (pre rest : List Mc.Act) (mi : Mc.St), Hid (acts = pre ++ rest) ∧ Hid (OwnsA wr w.heap.size vo pre) ∧ Hid (Mach wr b v mi) ∧ Hid (Mc.Runs (Sd.nm k ended) mi rest m') ∧ Hid (Mc.Inv mi) ∧ Hid (mi.tot + 65535 * (rest.length : Int) ≤ 4611686018427387904) ∧ Hid (Keep (mo b v) w wr)) (fun vo _ => acts.length + 1 - vlen vo)
  case atStart => exact ⟨[], acts, m, rfl, OwnsA.nil _ _, HM, HR, HI, HT, Keep.refl _ _⟩
  case round =>
    obtain ⟨pre, rest, mi, HA, HO, HM1, HR1, HI1, HT1, HK1⟩ := hrel
    clear HM HR HI HT
    have HSp := hid (spot_any mi b v wr HM1.out HI1.out.ln)
    unfold SpotP at HSp
    have HNx := hid (fun W v2 (h : RTz W v2 mi.tags) => snext_any k ended mi.at_ mi.pend mi.tags v2 W h)
    have hnm : Sd.nx k ended mi.at_ mi.pend mi.tags = Sd.nm k ended mi := rfl
    rw [hnm] at HNx
    unfold AnsP at HNx
    obtain ⟨Ao, co, hvo, _, _⟩ := HO.out.slice
    subst hvo
    have HD := hid (fun x y W (h : Mach W b v mi) => do_any mi x y b v W h HI1.out (by have := HT1.out; omega))
    unfold Did at HD
    have HKN : Hid (∀ W W' (h : Keep (mo b v) w W) (h2 : KW W W'), Keep (mo b v) w W') := fun W W' h h2 => h.kwt h2
    have HOn : Hid (∀ i, (Value.slice Ao pre.length co).ownBlock = some i → ¬ mo b v i) := fun i hi hm => by
      have h1 := (HO.out.lt hi).1
      have h2 := HMlt.out i hm
      omega
    go_wp2_with fail
    refine HSp.out.mono ?_
    rintro e w2 ⟨v2, rfl, ho2, hk2⟩
    have HZ := hid ho2.rtz
    have HM2 := hid (HM1.out.kw hk2)
    have HO2 := hid (HO.out.kw hk2)
    have HK2 := hid (HK1.out.kwt hk2)
    obtain ⟨A2, c2, hv2, _⟩ := ho2.row
    rw [ints_len] at hv2
    subst hv2
    clear ho2 hk2
    go_wp2_with fail
    refine (HNx.out _ _ HZ.out).mono ?_
    rintro e w3 ⟨rfl, hk3⟩
    have HM3 := hid (HM2.out.kw hk3)
    have HO3 := hid (HO2.out.kw hk3)
    have HK3 := hid (HK2.out.kwt hk3)
    clear hk3
    cases rest with
    | nil =>
      obtain ⟨hm', hx⟩ := HR1.out
      subst hm'
      have HAe : Hid (acts = pre) := by rw [HA.out, List.append_nil]; exact hid rfl
      rcases hx with hx | ⟨a, hx, her⟩
      · rw [hx]
        simp only [Option.getD_none, Option.isSome_none]
        go_wp2_with fail
        go_ret
        exact ⟨_, rfl, by rw [HAe.out]; exact HO3.out.kw ((KW.refl w3).alloc _), HM3.out.kw ((KW.refl w3).alloc _), HK3.out.alloc _⟩
      · rw [hx]
        simp only [Option.getD_some, Option.isSome_some]
        obtain ⟨x, y⟩ := a
        have HEs := hid (Mc.step_err m' x y her)
        have HD1 := hid (HD.out x y)
        clear HD
        generalize (Mc.step m' x y).2 = er at *
        have d1 : (er != 0) = true := by simpa using her
        clear her hx
        go_wp2_with fail
        refine (HD1.out _ (HM3.out.kw ((KW.refl w3).alloc _))).mono ?_
        rintro e w4 ⟨rfl, hm4, hk4⟩
        rw [HEs.out] at hm4
        have HM4 := hid hm4
        have HO4 := hid ((HO3.out.kw ((KW.refl w3).alloc (.cells #[.int .i64 x, .int .i64 y] 55))).keep hk4 HOn.out)
        have HK4 := hid ((HK3.out.alloc (.cells #[.int .i64 x, .int .i64 y] 55)).t hk4)
        clear hm4 hk4
        go_wp2_with fail
        go_ret
        exact ⟨_, rfl, by rw [HAe.out]; exact HO4.out, HM4.out, HK4.out⟩
    | cons a rest =>
      obtain ⟨hx, her, hr⟩ := HR1.out
      obtain ⟨x, y⟩ := a
      rw [hx]
      simp only [Option.getD_some, Option.isSome_some]
      have HR2 := hid hr
      have HI2 := hid (HI1.out.step x y)
      have HS := hid (Mc.step_tot mi x y)
      have HD1 := hid (HD.out x y)
      have HT2 : Hid ((Mc.step mi x y).1.tot + 65535 * (rest.length : Int) ≤ 4611686018427387904) := by
        have h1 := HT1.out
        have h2 := HS.out
        simp only [List.length_cons] at h1
        exact hid (by omega)
      have HA2 : Hid (acts = (pre ++ [(x, y)]) ++ rest) := by rw [HA.out]; exact hid (by simp)
      have HL : Hid (pre.length + 1 ≤ acts.length) := by rw [HA.out]; exact hid (by simp)
      clear HD hx hr HR1 HS
      have her' : (Mc.step mi x y).2 = 0 := her
      rw [her'] at HD1
      clear her her'
      dsimp only at HR2
      generalize (Mc.step mi x y).1 = mj at *
      go_wp2_with fail
      refine (HD1.out _ (HM3.out.kw ((KW.refl w3).alloc _))).mono ?_
      rintro e w4 ⟨rfl, hm4, hk4⟩
      have HM4 := hid hm4
      have HO4 := hid ((HO3.out.kw ((KW.refl w3).alloc (.cells #[.int .i64 x, .int .i64 y] 55))).keep hk4 HOn.out)
      have HK4 := hid ((HK3.out.alloc (.cells #[.int .i64 x, .int .i64 y] 55)).t hk4)
      have hnb : ¬ mo b v w3.heap.size := fun h => by
        have := HM3.out.lt h; omega
      have hb4 := (hk4.block w3.heap.size (by simp) hnb).trans (heap_alloc_new w3 _)
      have HB4 := hid hb4
      clear hm4 hk4 hnb hb4
      have HQ1 : Hid ((pre.length + 1) * 16 ≤ 140737488355328) := by have := HL.out; exact hid (by omega)
      have HQ2 : Hid (pre.length + 1 ≤ 9223372036854775807) := by have := HL.out; exact hid (by omega)
      have HQ3 : Hid (w.heap.size ≤ (w4.alloc (.cells #[.int .i64 x, .int .i64 y] 55)).heap.size) := by have := HK4.out.size; exact hid (by simp; omega)
      have HO5 := hid (HO4.out.kw ((KW.refl w4).alloc (.cells #[.int .i64 x, .int .i64 y] 55)))
      have HX : Hid (Holds (w4.alloc (.cells #[.int .i64 x, .int .i64 y] 55)) (.slice (some ⟨w4.heap.size, 0, none⟩) 1 1) 1 2 [.int .i64 x, .int .i64 y]) := Holds.new (w := w4) (t := 55) (k := 1) (size := 2) (c := 1) (ys := [.int .i64 x, .int .i64 y]) rfl rfl
      go_wp2_with (first
        | (at_builtin; refine wpList_appA rfl sliceAct rfl (W := w4.alloc (.cells #[.int .i64 x, .int .i64 y] 55)) (base := w.heap.size) (k := 1) (n := pre.length) (v := .slice Ao pre.length co) (u := .slice (some ⟨w4.heap.size, 0, none⟩) 1 1) (xs := acl pre) (ys := [.int .i64 x, .int .i64 y]) rfl rfl HX.out HO5.out HQ3.out HQ1.out HQ2.out ?_; intro v5 w5 hown5 hkeep5 hv5)
        | (refine wpList_load_row rfl 55 _ rfl w3.heap.size rfl 55 _ (0, 0) _ HB4.out Try.underlying55 rfl (by kernel_rfl) ?_))
      have hno : ∀ i, mo b v i → ¬ (Value.slice Ao pre.length co).ownBlock = some i := fun i hi h => HOn.out i h hi
      have HM5 := hid ((HM4.out.kw ((KW.refl w4).alloc _)).keep hkeep5 hno)
      have HK5 : Hid (Keep (mo b v) w w5) := (HK4.out.alloc _).trans (hkeep5.mono (own' := fun i => w.heap.size ≤ i) fun i _ hi => (HO5.out.lt hi).1) fun i hi h => by omega
      have HO6 : Hid (OwnsA w5 w.heap.size v5 (pre ++ [(x, y)])) := OwnsA.app (l' := [(x, y)]) hown5
      clear hown5 hkeep5 hv5 hno
      have hvl := HO6.out.vlen
      rw [List.length_append] at hvl
      have HVL := hid hvl
      have hl := HL.out
      clear hvl
      go_roundw
      case rel => exact ⟨pre ++ [(x, y)], rest, mj, HA2, HO6, HM5, HR2, HI2, HT2, HK5⟩
      case measure =>
        have := HVL.out
        simp only [List.length_cons, List.length_nil] at this
        rw [this]
        show _ < acts.length + 1 - pre.length
        omega
end Go.Proofs.Ytkdamcacmecnaaa
