/- Contracts of stride.steps, Ahead, List. -/
import Derived.Test.YtkdamcacmecnaaaT6
namespace Go.Proofs.Ytkdamcacmecnaaa
open Go.ChangeShapes Go.WideShapes Go.ChangeAt Go.RowKit
set_option linter.unusedVariables false

theorem ssteps_no (k s : Int) (w : World) (h : k < 0 ∨ 65536 ≤ k ∨ s < 1 ∨ 1048576 < s) :
    Calls Try.prog 57 #[.int .i64 k, .int .i64 s] w fun e w' => e = .returned (.tuple #[.slice none 0 0, .pointer none, .int .i64 2]) ∧ w = w' := by
  have HN := hid (fun W => stride_no k s W h)
  clear h
  go_enter Try.func57, Try.ntmps57
  go_wp2_with (go_at_call 22; refine (HN.out _).mono ?_; rintro e w1 ⟨rfl, rfl⟩)
  go_ret3
  exact ⟨rfl, rfl⟩
theorem ssahead_no (k s : Int) (w : World) (h : k < 0 ∨ 65536 ≤ k ∨ s < 1 ∨ 1048576 < s) :
    Calls Try.prog 29 #[.int .i64 k, .int .i64 s] w fun e w' => e = .returned (.tuple #[.slice none 0 0, .int .i64 2]) ∧ w = w' := by
  have HN := hid (fun W => ssteps_no k s W h)
  clear h
  go_enter Try.func29, Try.ntmps29
  go_wp2_with (go_at_call 57; refine (HN.out _).mono ?_; rintro e w1 ⟨rfl, rfl⟩)
  go_ret2
  exact ⟨rfl, rfl⟩
theorem slist_no (k s : Int) (w : World) (h : k < 0 ∨ 65536 ≤ k ∨ s < 1 ∨ 1048576 < s) :
    Calls Try.prog 35 #[.int .i64 k, .int .i64 s] w fun e w' => e = .returned (.tuple #[.slice none 0 0, .int .i64 2]) ∧ w = w' := by
  have HN := hid (fun W => ssteps_no k s W h)
  clear h
  go_enter Try.func35, Try.ntmps35
  go_wp2_with (go_at_call 57; refine (HN.out _).mono ?_; rintro e w1 ⟨rfl, rfl⟩)
  go_ret2
  exact ⟨rfl, rfl⟩

/-- what steps leaves -/
def StepsP (L n : Nat) (w : World) (e : Ending) (w' : World) : Prop :=
  ∃ b v A c, e = .returned (.tuple #[.slice A (Sd.aA n L).length c, .pointer (some ⟨b, 0, none⟩), .int .i64 0]) ∧ OwnsA w' w.heap.size (.slice A (Sd.aA n L).length c) (Sd.aA n L) ∧ Mach w' b v (Sd.mA L n L) ∧ (∀ i, mo b v i → w.heap.size ≤ i) ∧ (∀ i, (Value.slice A (Sd.aA n L).length c).ownBlock = some i → ¬ mo b v i) ∧ KW w w'
set_option maxRecDepth 100000 in
set_option maxHeartbeats 2000000 in
theorem ssteps_yes (L n : Nat) (w : World) (hL : L < 65536) (hn : 1 ≤ n ∧ n ≤ 1048576) :
    Calls Try.prog 57 #[.int .i64 L, .int .i64 n] w (StepsP L n w) := by
  have HN := hid (fun W => stride_yes L n W (by omega) (by omega) (by omega) (by omega))
  have HNew := hid (fun W => new_yes L n W (by omega) (by omega) hn.2)
  have HRun := hid (fun (k : Nat) (hk : k ≤ L) b v W (h : Mach W b v (Sd.mZ L n k)) => srun_any k false b v _ _ _ W h (Sd.run_ahead (L := (L : Int)) (n := n) (k := k) (by omega) (by omega) hn) (Sd.mZ_inv (L := (L : Int)) (by omega) (by omega) (by omega) hn) (by have := Sd.rA_le n k; omega) (by have := Sd.rA_le n k; have := Sd.mZ_tot L n k; omega))
  have HLen := hid (fun k (hk : k ≤ 65536) => Sd.aB_b n hk)
  have HEnd := hid (Sd.aB_aA n L)
  unfold StepsP
  unfold NewP at HNew
  unfold RunP at HRun
  have hmz : Hid (Sd.mZ L n (L + 1) = Sd.mA L n L) := rfl
  have hmz0 : Hid (Sd.mZ L n 0 = Mc.new L n) := rfl
  have hab : Hid (∀ k, Sd.aB n (k + 1) = Sd.aB n k ++ Sd.rA n k) := fun k => rfl
  generalize Sd.sd L n = dd at *
  go_enter Try.func57, Try.ntmps57
  go_wp2_with (go_at_call 22; refine (HN.out _).mono ?_; rintro e w1 ⟨rfl, rfl⟩)
  refine (HNew.out _).mono ?_
  rintro e w1 ⟨b, v, rfl, hm, hb, hk⟩
  have HM := hid hm
  have HB := hid hb
  have HK := hid hk
  clear hm hb hk
  go_wp2_with fail
  go_loopw [11, 30] (fun vo i wr => ∃ k : Nat, k ≤ L + 1 ∧ i = .int .i64 k ∧ Hid (OwnsA wr w.heap.size vo (Sd.aB n k)) ∧ Hid (∀ i, vo.ownBlock = some i → ¬ mo b v i) ∧ Hid (Mach wr b v (Sd.mZ L n k)) ∧ Hid (KW w wr)) (fun _ i _ => L + 1 - (intOf i).toNat)
  case atStart => exact ⟨0, by omega, rfl, OwnsA.nil _ _, fun i h => (by cases h), by rw [hmz0.out]; exact HM, HK⟩
  case round =>
    obtain ⟨k, hk, rfl, HO, HOn, HM1, HK1⟩ := hrel
    clear HM HK
    obtain ⟨Ao, co, hvo, _, _⟩ := HO.out.slice
    subst hvo
    by_cases hlt : k < L + 1
    · have L5 : (k : Int) < (L : Int) + 1 := by omega
      have HRk := hid (HRun.out k (by omega) b v wr HM1.out)
      have HLk := hid (HLen.out k (by omega))
      have HRl := hid (Sd.rA_le n k)
      have HMn : Hid (Sd.mZ L n (k + 1) = Sd.mA L n k) := rfl
      have HAb := hid (hab.out k)
      go_wp2_with fail
      refine HRk.out.mono ?_
      rintro e w2 ⟨v2, rfl, ho2, hm2, hk2⟩
      obtain ⟨A2, c2, hv2, _, _⟩ := ho2.slice
      subst hv2
      have HH2 := hid ho2.holds
      have HO2 := hid (HO.out.keep hk2 HOn.out)
      have HM2 := hid hm2
      have HK2 : Hid (KW w w2) := HK1.out.kept hk2 fun i hi => HB.out i hi
      have HQ1 : Hid (((Sd.aB n k).length + (Sd.rA n k).length) * 16 ≤ 140737488355328) := by have := HLk.out; have := HRl.out; exact hid (by omega)
      have HQ2 : Hid ((Sd.aB n k).length + (Sd.rA n k).length ≤ 9223372036854775807) := by have := HLk.out; have := HRl.out; exact hid (by omega)
      have HQ3 : Hid (w.heap.size ≤ w2.heap.size) := HK2.out.size
      have HMl : Hid (∀ i, mo b v i → i < w2.heap.size) := fun i hi => hm2.lt hi
      clear ho2 hm2 hk2
      go_wp2_with (at_builtin; refine wpList_appA rfl sliceAct rfl (W := w2) (base := w.heap.size) (k := (Sd.rA n k).length) (n := (Sd.aB n k).length) (v := .slice Ao (Sd.aB n k).length co) (u := .slice A2 (Sd.rA n k).length c2) (xs := acl (Sd.aB n k)) (ys := acl (Sd.rA n k)) rfl rfl HH2.out HO2.out HQ3.out HQ1.out HQ2.out ?_; intro v5 w5 hown5 hkeep5 hv5)
      have hno : ∀ i, mo b v i → ¬ (Value.slice Ao (Sd.aB n k).length co).ownBlock = some i := fun i hi h => HOn.out i h hi
      have HM5 : Hid (Mach w5 b v (Sd.mZ L n (k + 1))) := by rw [HMn.out]; exact hid (HM2.out.keep hkeep5 hno)
      have HO6 : Hid (OwnsA w5 w.heap.size v5 (Sd.aB n (k + 1))) := by rw [HAb.out]; exact hid (OwnsA.app hown5)
      have HK5 : Hid (KW w w5) := HK2.out.kept hkeep5 fun i hi => (HO2.out.lt hi).1
      have HOn5 : Hid (∀ i, v5.ownBlock = some i → ¬ mo b v i) := fun i hi hm => by
        rcases hv5 with h | h
        · exact HOn.out i (by rw [← h]; exact hi) hm
        · rw [h] at hi
          cases hi
          have := HMl.out _ hm
          omega
      clear hown5 hkeep5 hv5 hno
      go_roundw
      case rel => exact ⟨k + 1, by omega, by go_num, HO6, HOn5, HM5, HK5⟩
      case measure => simp [intOf]; omega
    · obtain rfl : k = L + 1 := by omega
      have d : decide (((L + 1 : Nat) : Int) < (L : Int) + 1) = false := decide_eq_false (by omega)
      clear hlt
      rw [HEnd.out, hmz.out] at *
      go_wp2_with fail
      go_ret3
      exact ⟨b, v, Ao, co, rfl, HO.out, HM1.out, HB.out, HOn.out, HK1.out⟩

/-- a list of actions, or an error -/
def ActsP (w : World) (acts : List Mc.Act) (c : Int) (e : Ending) (w' : World) : Prop :=
  ∃ A cp, e = .returned (.tuple #[.slice A acts.length cp, .int .i64 c]) ∧ OwnsA w' w.heap.size (.slice A acts.length cp) acts ∧ KW w w'
theorem ssahead_yes (L n : Nat) (w : World) (hL : L < 65536) (hn : 1 ≤ n ∧ n ≤ 1048576) :
    Calls Try.prog 29 #[.int .i64 L, .int .i64 n] w (ActsP w (Sd.aA n L) 0) := by
  have HN := hid (fun W => ssteps_yes L n W hL hn)
  unfold StepsP at HN
  unfold ActsP
  go_enter Try.func29, Try.ntmps29
  go_wp2_with fail
  refine (HN.out _).mono ?_
  rintro e w1 ⟨b, v, A, c, rfl, ho, _, _, _, hk⟩
  have HO := hid ho
  have HK := hid hk
  clear ho hk
  go_wp2_with fail
  go_ret2
  exact ⟨A, c, rfl, HO.out, HK.out⟩
set_option maxRecDepth 100000 in
set_option maxHeartbeats 1000000 in
theorem slist_yes (L n : Nat) (w : World) (hL : L < 65536) (hn : 1 ≤ n ∧ n ≤ 1048576) :
    Calls Try.prog 35 #[.int .i64 L, .int .i64 n] w (ActsP w (Sd.lA n L) 0) := by
  have HN := hid (fun W => ssteps_yes L n W hL hn)
  have HRun := hid (fun b v W (h : Mach W b v (Sd.mA L n L)) => srun_any L true b v _ _ _ W h (Sd.back_runs (n := n) (l := L) hL hn) (Sd.mZ_inv (L := (L : Int)) (n := n) (k := L + 1) (by omega) (by omega) (by omega) hn) (by have := Sd.bL_le (Sd.sd L n) (Sd.aT n L) L; omega) (by have := Sd.bL_le (Sd.sd L n) (Sd.aT n L) L; have := Sd.mZ_tot L n (L + 1); rw [show Sd.mZ L n (L + 1) = Sd.mA L n L from rfl] at this; omega))
  have HL1 : Hid ((Sd.aA n L).length ≤ 4296000000) := by rw [← Sd.aB_aA]; exact hid (Sd.aB_b n (by omega))
  have HL2 := hid (Sd.bL_le (Sd.sd L n) (Sd.aT n L) L)
  have HLA : Hid (Sd.lA n L = Sd.aA n L ++ Sd.bL (Sd.sd L n) (Sd.aT n L) L) := rfl
  unfold StepsP at HN
  unfold RunP at HRun
  unfold ActsP
  generalize Sd.lA n L = la at *
  generalize Sd.bL (Sd.sd L n) (Sd.aT n L) L = bl at *
  generalize Sd.aA n L = aa at *
  generalize Sd.mA L n L = m1 at *
  go_enter Try.func35, Try.ntmps35
  go_wp2_with fail
  refine (HN.out _).mono ?_
  rintro e w1 ⟨b, v, A, c, rfl, ho, hm, hb, hob, hk⟩
  have HO := hid ho
  have HM := hid hm
  have HB := hid hb
  have HOB := hid hob
  have HK := hid hk
  clear ho hm hb hob hk
  go_wp2_with fail
  refine (HRun.out _ _ _ HM.out).mono ?_
  rintro e w2 ⟨v2, rfl, ho2, hm2, hk2⟩
  obtain ⟨A2, c2, hv2, _, _⟩ := ho2.slice
  subst hv2
  have HH2 := hid ho2.holds
  have HO2 := hid (HO.out.keep hk2 HOB.out)
  have HK2 : Hid (KW w w2) := HK.out.kept hk2 fun i hi => HB.out i hi
  have HQ1 : Hid ((aa.length + bl.length) * 16 ≤ 140737488355328) := by have := HL1.out; have := HL2.out; exact hid (by omega)
  have HQ2 : Hid (aa.length + bl.length ≤ 9223372036854775807) := by have := HL1.out; have := HL2.out; exact hid (by omega)
  have HQ3 : Hid (w.heap.size ≤ w2.heap.size) := HK2.out.size
  clear ho2 hm2 hk2
  go_wp2_with (at_builtin; refine wpList_appA rfl sliceAct rfl (W := w2) (base := w.heap.size) (k := bl.length) (n := aa.length) (v := .slice A aa.length c) (u := .slice A2 bl.length c2) (xs := acl aa) (ys := acl bl) rfl rfl HH2.out HO2.out HQ3.out HQ1.out HQ2.out ?_; intro v5 w5 hown5 hkeep5 hv5)
  have HO5 : Hid (OwnsA w5 w.heap.size v5 la) := by rw [HLA.out]; exact hid (OwnsA.app hown5)
  have HK5 : Hid (KW w w5) := HK2.out.kept hkeep5 fun i hi => (HO2.out.lt hi).1
  obtain ⟨A5, c5, hv5', _, _⟩ := HO5.out.slice
  subst hv5'
  clear hown5 hkeep5 hv5
  go_wp2_with fail
  go_ret2
  exact ⟨A5, c5, rfl, HO5.out, HK5.out⟩
end Go.Proofs.Ytkdamcacmecnaaa
