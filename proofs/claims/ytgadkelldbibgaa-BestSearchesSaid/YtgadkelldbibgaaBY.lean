/- Several texts in one. -/
import Derived.Test.YtgadkelldbibgaaBX
/- best.Search's closure: one that is new, or better (far, key new). Written by gen/XB10.py. -/
namespace Go.Proofs.Ytgadkelldbibgaa
open Go.ChangeShapes Go.WideShapes Go.ChangeAt Go.RowKit
set_option linter.unusedVariables false

set_option maxRecDepth 100000 in
set_option maxHeartbeats 1000000 in
theorem see_new1n (w : World) (b : Bx) (T : Int) (near far : List Ky) (g : Sx.G) (k : Ky) (n : Int) (mb : Nat) (v : Value) (m : Mc.St) (gd : Ky → Option Fd) (to : Ky) (hto : kof m.at_ m.pend m.tags = to)
    (hM : Mem w b T near far g (some k)) (hm : Mach w mb v m) (hl : m.tags.length ≤ 3) (hs : to.small) (hgd : Known w b.mb gd) (hfd : gd to = none) (ht0 : 0 ≤ T) (ht1 : T ≤ 1000000) (hnl : far.length ≤ 1000000) (vn vf : Value) 
    (n1 : w.rowIs b.bf 106 1 (fun _ => vn)) (n3 : OwnsK w 0 vn far) (hq : w.rowIs b.bq 101 5 (kcs k.at_ k.pend k.x k.y k.z)) (hqn : vn.ownBlock ≠ some b.bq) :
    Calls Try.prog 65 (seeArgs 1 n mb b) w fun e w' => e = .returned (.tuple #[]) ∧ ∃ v', Known w' b.mb (putF gd to ⟨mb, T + 1, 1, n, k, false⟩) ∧ OwnsK w' 0 v' (far ++ [to]) ∧ w'.rowIs b.bf 106 1 (fun _ => v') ∧
      (v'.ownBlock = vn.ownBlock ∨ ∃ i, v'.ownBlock = some i ∧ w.heap.size ≤ i) ∧ Keep (fun i => i = b.mb ∨ i = b.bf ∨ vn.ownBlock = some i) w w' := by
  have c1 := hM.tot.cell (i := 0) (by omega)
  have c2 := hM.kb.cell (i := 0) (by omega)
  have l1 := hM.tot.lt
  have l2 := hM.kb.lt
  obtain ⟨A, cp, rfl, hcap, hA⟩ := n3.slice
  have L1 : IntKind.i64.wrap (T + 1) = T + 1 := IntWalk.i64_in _ (by omega)
  have L2 : (T + 1 == T) = false := beq_eq_false_iff_ne.2 (by omega)
  have HM := hid hm
  have HT := hid hM.tot
  have HG := hid hgd
  have HS := hid hs
  have HF := hid hfd
  have HN1 := hid n1
  have HN3 := hid n3
  have HQ := hid hq
  have HB := hid (And.intro (row_ne_map hM.tot hgd) (And.intro (row_ne_map n1 hgd) (row_ne_map hq hgd)))
  have hk := KW.refl w
  have HL : Hid ((if true = true then (.tuple #[fdo (gd to), .bool (gd to).isSome] : Value) else fdo (gd to)) = .tuple #[fd0, .bool false]) := by
    show _ = _
    rw [if_pos rfl, HF.out]
    rfl
  have HB1 : (far.length + 1) * 40 ≤ 140737488355328 := by omega
  have HB2 : far.length + 1 ≤ 9223372036854775807 := by omega
  clear hM hm hgd hs hfd n1 n3 hq
  unfold seeArgs
  go_enter Try.func65, Try.ntmps65
  go_wp2_with (first
    | (go_at_call 23; refine (spot_any m mb v _ (HM.out.kw ((KW.refl w).alloc _)) (by omega)).mono ?_; rintro e w1 ⟨u, rfl, hu, hb⟩; have hk1 := hid (((KW.refl w).alloc _).t hb); have hk1' := hid hb; clear hb)
    | (go_at_call 62; refine (of_to m.at_ m.pend u m.tags _ _ hu hl to hto).mono ?_; rintro e w2 ⟨rfl, hb2⟩; have hk2 := hid (hk1.out.t hb2); have c3 := KW.cell hk2.out l2 c2; have l3 : b.bk < w2.heap.size := Nat.lt_of_lt_of_le l2 hk2.out.size; have HG2 := hid (HG.out.keep (hk2.out.keep (own := fun _ => False)) id); have hbox := KW.row (hk1'.out.t hb2) (by simp) (World.rowIs_alloc w #[.int .i64 1, .int .i64 n] 27 (fun i => #[Value.int .i64 1, .int .i64 n].getD i undef) (fun i hi => by simp at hi; simp [hi])); have d0 : w2.cell? ⟨w.heap.size, 0, none⟩ = some (.int .i64 1) := hbox.cell (i := 0) Nat.zero_lt_two; have d1 : w2.cell? ⟨w.heap.size, 1, none⟩ = some (.int .i64 n) := hbox.cell (i := 1) Nat.one_lt_two; have l4 : w.heap.size < w2.heap.size := hbox.lt; clear hbox; have hq2 := KW.row hk2.out HQ.out.lt HQ.out; have l5 : b.bq < w2.heap.size := hq2.lt; have e0 : w2.cell? ⟨b.bq, 0, none⟩ = some (.int .i64 k.at_) := hq2.cell (i := 0) (by decide); have e1 : w2.cell? ⟨b.bq, 1, none⟩ = some (.int .i64 k.pend) := hq2.cell (i := 1) (by decide); have e2 : w2.cell? ⟨b.bq, 2, none⟩ = some (.int .i64 k.x) := hq2.cell (i := 2) (by decide); have e3 : w2.cell? ⟨b.bq, 3, none⟩ = some (.int .i64 k.y) := hq2.cell (i := 3) (by decide); have e4 : w2.cell? ⟨b.bq, 4, none⟩ = some (.int .i64 k.z) := hq2.cell (i := 4) (by decide); clear hq2; clear hb2)
    | (at_lookup; refine wpList_look _ rfl _ _ true rfl b.mb gd rfl (HG2.out.keep (((KW.refl w2).alloc _).keep (own := fun _ => False)) id) to rfl HS.out _ HL.out ?_; unfold fd0)
    | (at_mapUpdate; refine wpList_kput _ rfl _ _ _ (.inl rfl) b.mb gd rfl (HG2.out.keep ((((KW.refl w2).alloc _).alloc _).keep (own := fun _ => False)) id) to rfl HS.out ⟨mb, T + 1, 1, n, k, false⟩ rfl ?_; intro w3 hkn hkeep hsz; have r1 := see_mid hk2.out hkeep HB.out.1 HT.out; have c5 : w3.cell? ⟨b.bt, 0, none⟩ = some (.int .i64 T) := r1.cell (i := 0) Nat.zero_lt_one; have l6 : b.bt < w3.heap.size := r1.lt; clear r1; have r2 := see_mid hk2.out hkeep HB.out.2.1 HN1.out; have c6 : w3.cell? ⟨b.bf, 0, none⟩ = some (.slice A far.length cp) := r2.cell (i := 0) Nat.zero_lt_one; have l7 : b.bf < w3.heap.size := r2.lt; have HN1' := hid r2; clear r2; have r3 := see_to hk2.out to hkeep HG.out.lt; have l8 : w2.heap.size < w3.heap.size := r3.lt; have t0 : w3.cell? ⟨w2.heap.size, 0, none⟩ = some (.int .i64 to.at_) := r3.cell (i := 0) (Nat.le_add_left 1 4); have t1 : w3.cell? ⟨w2.heap.size, 1, none⟩ = some (.int .i64 to.pend) := r3.cell (i := 1) (Nat.le_add_left 2 3); have t2 : w3.cell? ⟨w2.heap.size, 2, none⟩ = some (.int .i64 to.x) := r3.cell (i := 2) (Nat.le_add_left 3 2); have t3 : w3.cell? ⟨w2.heap.size, 3, none⟩ = some (.int .i64 to.y) := r3.cell (i := 3) (Nat.le_add_left 4 1); have t4 : w3.cell? ⟨w2.heap.size, 4, none⟩ = some (.int .i64 to.z) := r3.cell (i := 4) (Nat.le_refl 5); clear r3; have HKN := hid hkn; have HO := hid (see_own HG.out hk2.out hkeep HN3.out (.cells #[.int .i64 to.at_, .int .i64 to.pend, .int .i64 to.x, .int .i64 to.y, .int .i64 to.z] 101)); have HKP := hid hkeep; clear hkn hkeep hsz)
    | (refine wpList_appA rfl sliceKey rfl (W := w3.alloc (.cells #[.int .i64 to.at_, .int .i64 to.pend, .int .i64 to.x, .int .i64 to.y, .int .i64 to.z] 101)) (base := 0) (k := 1) (n := far.length) (v := .slice A far.length cp) (u := .slice (some ⟨w3.heap.size, 0, none⟩) 1 1) (xs := kcl far) (ys := kcl1 to) rfl rfl (holdsKey w3 to) HO.out (Nat.zero_le _) HB1 HB2 ?_; intro v' w4 ho4 hk4 hl4; have ho5 : OwnsK w4 0 v' (far ++ [to]) := OwnsK.app (l' := [to]) (kcl_one to ▸ ho4); obtain ⟨A', cp', rfl, _, _⟩ := ho5.slice; have r4 := see_box HN1'.out ne_keys HO.out hk4; have c8 : w4.cell? ⟨b.bf, 0, none⟩ = some (.slice A far.length cp) := r4.cell (i := 0) Nat.zero_lt_one; have c9 := r4.frozen 0; have l9 : b.bf < w4.heap.size := r4.lt; have HR4 := hid r4; have HO5 := hid ho5; have HK4 := hid hk4; have HL4 := hid hl4; clear r4 ho4 hk4 ho5 hl4))
  refine bodyPost_end (results_none rfl _ _ _) rfl ?_
  have HO6 := HO5.out
  have HL6 := HL4.out
  rw [show (far ++ [to]).length = far.length + 1 by simp] at HO6 HL6
  exact ⟨rfl, _, see_end hk2.out HKP.out HKN.out HO.out HK4.out HO6 HR4.out HB.out.2.1 HL6⟩

end Go.Proofs.Ytgadkelldbibgaa

/- best.Search's closure: one that is new, or better (far, key old). Written by gen/XB10.py. -/
namespace Go.Proofs.Ytgadkelldbibgaa
open Go.ChangeShapes Go.WideShapes Go.ChangeAt Go.RowKit
set_option linter.unusedVariables false

set_option maxRecDepth 100000 in
set_option maxHeartbeats 1000000 in
theorem see_new1s (w : World) (b : Bx) (T : Int) (near far : List Ky) (g : Sx.G) (k : Ky) (n : Int) (mb : Nat) (v : Value) (m : Mc.St) (gd : Ky → Option Fd) (to : Ky) (hto : kof m.at_ m.pend m.tags = to)
    (hM : Mem w b T near far g (some k)) (hm : Mach w mb v m) (hl : m.tags.length ≤ 3) (hs : to.small) (hgd : Known w b.mb gd) (fd : Fd) (hfd : gd to = some fd) (hgt : T + 1 < fd.tot) (ht0 : 0 ≤ T) (ht1 : T ≤ 1000000) (hnl : far.length ≤ 1000000) (vn vf : Value) 
    (n1 : w.rowIs b.bf 106 1 (fun _ => vn)) (n3 : OwnsK w 0 vn far) (hq : w.rowIs b.bq 101 5 (kcs k.at_ k.pend k.x k.y k.z)) (hqn : vn.ownBlock ≠ some b.bq) :
    Calls Try.prog 65 (seeArgs 1 n mb b) w fun e w' => e = .returned (.tuple #[]) ∧ ∃ v', Known w' b.mb (putF gd to ⟨mb, T + 1, 1, n, k, false⟩) ∧ OwnsK w' 0 v' (far ++ [to]) ∧ w'.rowIs b.bf 106 1 (fun _ => v') ∧
      (v'.ownBlock = vn.ownBlock ∨ ∃ i, v'.ownBlock = some i ∧ w.heap.size ≤ i) ∧ Keep (fun i => i = b.mb ∨ i = b.bf ∨ vn.ownBlock = some i) w w' := by
  have c1 := hM.tot.cell (i := 0) (by omega)
  have c2 := hM.kb.cell (i := 0) (by omega)
  have l1 := hM.tot.lt
  have l2 := hM.kb.lt
  obtain ⟨A, cp, rfl, hcap, hA⟩ := n3.slice
  have L1 : IntKind.i64.wrap (T + 1) = T + 1 := IntWalk.i64_in _ (by omega)
  have L2 : (T + 1 == T) = false := beq_eq_false_iff_ne.2 (by omega)
  have L3 : decide (fd.tot ≤ T + 1) = false := decide_eq_false (by omega)
  have HM := hid hm
  have HT := hid hM.tot
  have HG := hid hgd
  have HS := hid hs
  have HF := hid hfd
  have HN1 := hid n1
  have HN3 := hid n3
  have HQ := hid hq
  have HB := hid (And.intro (row_ne_map hM.tot hgd) (And.intro (row_ne_map n1 hgd) (row_ne_map hq hgd)))
  have hk := KW.refl w
  have HL : Hid ((if true = true then (.tuple #[fdo (gd to), .bool (gd to).isSome] : Value) else fdo (gd to)) = .tuple #[fdv fd, .bool true]) := by
    show _ = _
    rw [if_pos rfl, HF.out]
    rfl
  have HB1 : (far.length + 1) * 40 ≤ 140737488355328 := by omega
  have HB2 : far.length + 1 ≤ 9223372036854775807 := by omega
  clear hM hm hgd hs hfd n1 n3 hq
  unfold seeArgs
  go_enter Try.func65, Try.ntmps65
  go_wp2_with (first
    | (go_at_call 23; refine (spot_any m mb v _ (HM.out.kw ((KW.refl w).alloc _)) (by omega)).mono ?_; rintro e w1 ⟨u, rfl, hu, hb⟩; have hk1 := hid (((KW.refl w).alloc _).t hb); have hk1' := hid hb; clear hb)
    | (go_at_call 62; refine (of_to m.at_ m.pend u m.tags _ _ hu hl to hto).mono ?_; rintro e w2 ⟨rfl, hb2⟩; have hk2 := hid (hk1.out.t hb2); have c3 := KW.cell hk2.out l2 c2; have l3 : b.bk < w2.heap.size := Nat.lt_of_lt_of_le l2 hk2.out.size; have HG2 := hid (HG.out.keep (hk2.out.keep (own := fun _ => False)) id); have hbox := KW.row (hk1'.out.t hb2) (by simp) (World.rowIs_alloc w #[.int .i64 1, .int .i64 n] 27 (fun i => #[Value.int .i64 1, .int .i64 n].getD i undef) (fun i hi => by simp at hi; simp [hi])); have d0 : w2.cell? ⟨w.heap.size, 0, none⟩ = some (.int .i64 1) := hbox.cell (i := 0) Nat.zero_lt_two; have d1 : w2.cell? ⟨w.heap.size, 1, none⟩ = some (.int .i64 n) := hbox.cell (i := 1) Nat.one_lt_two; have l4 : w.heap.size < w2.heap.size := hbox.lt; clear hbox; have hq2 := KW.row hk2.out HQ.out.lt HQ.out; have l5 : b.bq < w2.heap.size := hq2.lt; have e0 : w2.cell? ⟨b.bq, 0, none⟩ = some (.int .i64 k.at_) := hq2.cell (i := 0) (by decide); have e1 : w2.cell? ⟨b.bq, 1, none⟩ = some (.int .i64 k.pend) := hq2.cell (i := 1) (by decide); have e2 : w2.cell? ⟨b.bq, 2, none⟩ = some (.int .i64 k.x) := hq2.cell (i := 2) (by decide); have e3 : w2.cell? ⟨b.bq, 3, none⟩ = some (.int .i64 k.y) := hq2.cell (i := 3) (by decide); have e4 : w2.cell? ⟨b.bq, 4, none⟩ = some (.int .i64 k.z) := hq2.cell (i := 4) (by decide); clear hq2; clear hb2)
    | (at_lookup; refine wpList_look _ rfl _ _ true rfl b.mb gd rfl (HG2.out.keep (((KW.refl w2).alloc _).keep (own := fun _ => False)) id) to rfl HS.out _ HL.out ?_; unfold fdv)
    | (at_mapUpdate; refine wpList_kput _ rfl _ _ _ (.inl rfl) b.mb gd rfl (HG2.out.keep ((((KW.refl w2).alloc _).alloc _).keep (own := fun _ => False)) id) to rfl HS.out ⟨mb, T + 1, 1, n, k, false⟩ rfl ?_; intro w3 hkn hkeep hsz; have r1 := see_mid hk2.out hkeep HB.out.1 HT.out; have c5 : w3.cell? ⟨b.bt, 0, none⟩ = some (.int .i64 T) := r1.cell (i := 0) Nat.zero_lt_one; have l6 : b.bt < w3.heap.size := r1.lt; clear r1; have r2 := see_mid hk2.out hkeep HB.out.2.1 HN1.out; have c6 : w3.cell? ⟨b.bf, 0, none⟩ = some (.slice A far.length cp) := r2.cell (i := 0) Nat.zero_lt_one; have l7 : b.bf < w3.heap.size := r2.lt; have HN1' := hid r2; clear r2; have r3 := see_to hk2.out to hkeep HG.out.lt; have l8 : w2.heap.size < w3.heap.size := r3.lt; have t0 : w3.cell? ⟨w2.heap.size, 0, none⟩ = some (.int .i64 to.at_) := r3.cell (i := 0) (Nat.le_add_left 1 4); have t1 : w3.cell? ⟨w2.heap.size, 1, none⟩ = some (.int .i64 to.pend) := r3.cell (i := 1) (Nat.le_add_left 2 3); have t2 : w3.cell? ⟨w2.heap.size, 2, none⟩ = some (.int .i64 to.x) := r3.cell (i := 2) (Nat.le_add_left 3 2); have t3 : w3.cell? ⟨w2.heap.size, 3, none⟩ = some (.int .i64 to.y) := r3.cell (i := 3) (Nat.le_add_left 4 1); have t4 : w3.cell? ⟨w2.heap.size, 4, none⟩ = some (.int .i64 to.z) := r3.cell (i := 4) (Nat.le_refl 5); clear r3; have HKN := hid hkn; have HO := hid (see_own HG.out hk2.out hkeep HN3.out (.cells #[.int .i64 to.at_, .int .i64 to.pend, .int .i64 to.x, .int .i64 to.y, .int .i64 to.z] 101)); have HKP := hid hkeep; clear hkn hkeep hsz)
    | (refine wpList_appA rfl sliceKey rfl (W := w3.alloc (.cells #[.int .i64 to.at_, .int .i64 to.pend, .int .i64 to.x, .int .i64 to.y, .int .i64 to.z] 101)) (base := 0) (k := 1) (n := far.length) (v := .slice A far.length cp) (u := .slice (some ⟨w3.heap.size, 0, none⟩) 1 1) (xs := kcl far) (ys := kcl1 to) rfl rfl (holdsKey w3 to) HO.out (Nat.zero_le _) HB1 HB2 ?_; intro v' w4 ho4 hk4 hl4; have ho5 : OwnsK w4 0 v' (far ++ [to]) := OwnsK.app (l' := [to]) (kcl_one to ▸ ho4); obtain ⟨A', cp', rfl, _, _⟩ := ho5.slice; have r4 := see_box HN1'.out ne_keys HO.out hk4; have c8 : w4.cell? ⟨b.bf, 0, none⟩ = some (.slice A far.length cp) := r4.cell (i := 0) Nat.zero_lt_one; have c9 := r4.frozen 0; have l9 : b.bf < w4.heap.size := r4.lt; have HR4 := hid r4; have HO5 := hid ho5; have HK4 := hid hk4; have HL4 := hid hl4; clear r4 ho4 hk4 ho5 hl4))
  refine bodyPost_end (results_none rfl _ _ _) rfl ?_
  have HO6 := HO5.out
  have HL6 := HL4.out
  rw [show (far ++ [to]).length = far.length + 1 by simp] at HO6 HL6
  exact ⟨rfl, _, see_end hk2.out HKP.out HKN.out HO.out HK4.out HO6 HR4.out HB.out.2.1 HL6⟩

end Go.Proofs.Ytgadkelldbibgaa
